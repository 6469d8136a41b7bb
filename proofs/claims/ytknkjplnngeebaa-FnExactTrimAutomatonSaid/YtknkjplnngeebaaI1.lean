/-
  The bodies of the functions in the small language, as a program printed them, and that each is what the translation gives.
-/
import Derived.Test.YtknkjplnngeebaaRows
import Derived.Test.YtknkjplnngeebaaGC
namespace Go.Proofs.Ytknkjplnngeebaa
open Go
set_option linter.all false
set_option linter.defProp false
set_option maxRecDepth 1000000

abbrev fn_main_main : Nat := 0
abbrev fn_gosem_cut : Nat := 1
abbrev fn_gosem_cut_init : Nat := 2
abbrev fn_laws_FnExactTrimAutomaton : Nat := 3
abbrev fn_laws_FnExactPrefixStates : Nat := 4
abbrev fn_laws_FnExactMergeStates : Nat := 5
abbrev fn_laws_FnExactSimplifyAutomaton : Nat := 6
abbrev fn_laws_FnExactExtendWord : Nat := 7
abbrev fn_laws_szAutomaton : Nat := 8
abbrev fn_spec_TrimAutomaton : Nat := 9
abbrev fn_laws_toAutomaton : Nat := 10
abbrev fn_impl_TrimAutomaton : Nat := 11
abbrev fn_laws_eqAutomaton : Nat := 12
abbrev fn_laws_markAutomaton : Nat := 13
abbrev fn_laws_heldAutomaton : Nat := 14
abbrev fn_spec_PrefixStates : Nat := 15
abbrev fn_laws_toIntS : Nat := 16
abbrev fn_impl_PrefixStates : Nat := 17
abbrev fn_laws_eqIntS : Nat := 18
abbrev fn_laws_markIntS : Nat := 19
abbrev fn_laws_heldIntS : Nat := 20
abbrev fn_spec_MergeStates : Nat := 21
abbrev fn_impl_MergeStates : Nat := 22
abbrev fn_spec_SimplifyAutomaton : Nat := 23
abbrev fn_impl_SimplifyAutomaton : Nat := 24
abbrev fn_spec_ExtendWord : Nat := 25
abbrev fn_impl_ExtendWord : Nat := 26
abbrev fn_laws_eqLasso : Nat := 27
abbrev fn_laws_markLasso : Nat := 28
abbrev fn_laws_heldLasso : Nat := 29
abbrev fn_laws_szIntS : Nat := 30
abbrev fn_laws_szBoolS : Nat := 31
abbrev fn_laws_szTransitionS : Nat := 32
abbrev fn_spec_AutomatonValid : Nat := 33
abbrev fn_spec_l13Trim : Nat := 34
abbrev fn_laws_toBoolS : Nat := 35
abbrev fn_laws_toTransitionS : Nat := 36
abbrev fn_impl_AutomatonValid : Nat := 37
abbrev fn_impl_Automaton_trim : Nat := 38
abbrev fn_laws_eqBoolS : Nat := 39
abbrev fn_laws_eqTransitionS : Nat := 40
abbrev fn_laws_markBoolS : Nat := 41
abbrev fn_laws_markTransitionS : Nat := 42
abbrev fn_laws_heldBoolS : Nat := 43
abbrev fn_laws_heldTransitionS : Nat := 44
abbrev fn_spec_l12Word : Nat := 45
abbrev fn_spec_l12States : Nat := 46
abbrev fn_impl_wordOk : Nat := 47
abbrev fn_impl_Automaton_prefix : Nat := 48
abbrev fn_spec_l13Merge : Nat := 49
abbrev fn_impl_Automaton_merge : Nat := 50
abbrev fn_spec_AutomatonSame : Nat := 51
abbrev fn_impl_Automaton_simplify : Nat := 52
abbrev fn_spec_FindWord : Nat := 53
abbrev fn_spec_LassoValid : Nat := 54
abbrev fn_impl_FindWord : Nat := 55
abbrev fn_slices_Clip_S_int_int : Nat := 56
abbrev fn_slices_Concat_S_int_int : Nat := 57
abbrev fn_impl_LassoValid : Nat := 58
abbrev fn_spec_l7Edge : Nat := 59
abbrev fn_spec_LiveStates : Nat := 60
abbrev fn_spec_l7Reach : Nat := 61
abbrev fn_spec_l7Next : Nat := 62
abbrev fn_spec_l13Keep : Nat := 63
abbrev fn_laws_toTransition : Nat := 64
abbrev fn_impl_in : Nat := 65
abbrev fn_slices_ContainsFunc_S_impl_Transition_impl_Transition : Nat := 66
abbrev fn_impl_AutomatonValid_1 : Nat := 67
abbrev fn_impl_reachable : Nat := 68
abbrev fn_impl_Automaton_next : Nat := 69
abbrev fn_impl_Automaton_live : Nat := 70
abbrev fn_impl_Automaton_copyOf : Nat := 71
abbrev fn_laws_eqTransition : Nat := 72
abbrev fn_spec_l6Letters : Nat := 73
abbrev fn_spec_l12Only : Nat := 74
abbrev fn_spec_l12Step : Nat := 75
abbrev fn_impl_letters : Nat := 76
abbrev fn_impl_Automaton_begin : Nat := 77
abbrev fn_impl_Automaton_after : Nat := 78
abbrev fn_impl_members : Nat := 79
abbrev fn_spec_l13Relation : Nat := 80
abbrev fn_spec_l10Sorted : Nat := 81
abbrev fn_impl_Automaton_simulation : Nat := 82
abbrev fn_impl_grouped : Nat := 83
abbrev fn_impl_Automaton_merge_1 : Nat := 84
abbrev fn_impl_picked : Nat := 85
abbrev fn_slices_Sort_S_int_int : Nat := 86
abbrev fn_slices_Compact_S_int_int : Nat := 87
abbrev fn_spec_l2Ints : Nat := 88
abbrev fn_impl_AutomatonSame : Nat := 89
abbrev fn_spec_l7Tree : Nat := 90
abbrev fn_spec_l7Cycle : Nat := 91
abbrev fn_spec_l7Letters : Nat := 92
abbrev fn_impl_lasso : Nat := 93
abbrev fn_impl_FindWord_1 : Nat := 94
abbrev fn_impl_Automaton_values : Nat := 95
abbrev fn_impl_clone_int : Nat := 96
abbrev fn_slices_Grow_S_int_int : Nat := 97
abbrev fn_spec_l7Loop : Nat := 98
abbrev fn_spec_l4In : Nat := 99
abbrev fn_slices_IndexFunc_S_impl_Transition_impl_Transition : Nat := 100
abbrev fn_impl_cyclic : Nat := 101
abbrev fn_impl_clone_bool : Nat := 102
abbrev fn_impl_clone_impl_Transition : Nat := 103
abbrev fn_spec_l7On : Nat := 104
abbrev fn_slices_ContainsFunc_S_int_int : Nat := 105
abbrev fn_impl_letters_1 : Nat := 106
abbrev fn_impl_Transition_takes : Nat := 107
abbrev fn_spec_l13Leaving : Nat := 108
abbrev fn_spec_l13Answers : Nat := 109
abbrev fn_impl_Automaton_simulation_1 : Nat := 110
abbrev fn_slices_pdqsortOrdered_int : Nat := 111
abbrev fn_math_bits_Len : Nat := 112
abbrev fn_slices_Equal_S_int_int : Nat := 113
abbrev fn_slices_Equal_S_bool_bool : Nat := 114
abbrev fn_slices_Equal_S_impl_Transition_impl_Transition : Nat := 115
abbrev fn_impl_order : Nat := 116
abbrev fn_impl_shortest : Nat := 117
abbrev fn_impl_lasso_1 : Nat := 118
abbrev fn_impl_around : Nat := 119
abbrev fn_impl_Automaton_values_1 : Nat := 120
abbrev fn_slices_Clone_S_int_int : Nat := 121
abbrev fn_impl_components : Nat := 122
abbrev fn_slices_Contains_S_int_int : Nat := 123
abbrev fn_slices_Clip_S_bool_bool : Nat := 124
abbrev fn_slices_Clone_S_bool_bool : Nat := 125
abbrev fn_slices_Clip_S_impl_Transition_impl_Transition : Nat := 126
abbrev fn_slices_Clone_S_impl_Transition_impl_Transition : Nat := 127
abbrev fn_slices_IndexFunc_S_int_int : Nat := 128
abbrev fn_slices_insertionSortOrdered_int : Nat := 129
abbrev fn_slices_heapSortOrdered_int : Nat := 130
abbrev fn_slices_breakPatternsOrdered_int : Nat := 131
abbrev fn_slices_choosePivotOrdered_int : Nat := 132
abbrev fn_slices_reverseRangeOrdered_int : Nat := 133
abbrev fn_slices_partialInsertionSortOrdered_int : Nat := 134
abbrev fn_cmp_Less_int : Nat := 135
abbrev fn_slices_partitionEqualOrdered_int : Nat := 136
abbrev fn_slices_partitionOrdered_int : Nat := 137
abbrev fn_math_bits_Len32 : Nat := 138
abbrev fn_math_bits_Len64 : Nat := 139
abbrev fn_impl_order_1 : Nat := 140
abbrev fn_slices_Reverse_S_int_int : Nat := 141
abbrev fn_impl_around_1 : Nat := 142
abbrev fn_impl_components_1 : Nat := 143
abbrev fn_slices_Index_S_int_int : Nat := 144
abbrev fn_slices_siftDownOrdered_int : Nat := 145
abbrev fn_slices_nextPowerOfTwo : Nat := 146
abbrev fn_slices_xorshift_Next : Nat := 147
abbrev fn_slices_medianAdjacentOrdered_int : Nat := 148
abbrev fn_slices_medianOrdered_int : Nat := 149
abbrev fn_cmp_isNaN_int : Nat := 150
abbrev fn_slices_order2Ordered_int : Nat := 151
abbrev fn_runtime_boundsError_Error : Nat := 152
abbrev fn_runtime_boundsError_RuntimeError : Nat := 153
abbrev fn_runtime_errorString_Error : Nat := 154
abbrev fn_runtime_errorString_RuntimeError : Nat := 155
abbrev fn_runtime_plainError_Error : Nat := 156
abbrev fn_runtime_plainError_RuntimeError : Nat := 157
abbrev fn_runtime_errorAddressString_Error : Nat := 158
abbrev fn_runtime_errorAddressString_RuntimeError : Nat := 159
abbrev fn_runtime_TypeAssertionError_Error : Nat := 160
abbrev fn_runtime_TypeAssertionError_RuntimeError : Nat := 161
abbrev fn_runtime_PanicNilError_Error : Nat := 162
abbrev fn_runtime_PanicNilError_RuntimeError : Nat := 163
abbrev fn_internal_abi_Type_Align : Nat := 164
abbrev fn_internal_runtime_maps_unhashableTypeError_Error : Nat := 165
abbrev fn_internal_runtime_maps_unhashableTypeError_RuntimeError : Nat := 166
abbrev fn_impl_Automaton_accepting : Nat := 167
abbrev fn_impl_Lasso_next : Nat := 168
abbrev fn_internal_abi_Kind_String : Nat := 169
def H_impl_AutomatonSame : Hint := ⟨[(0, false), (1, false), (2, true), (3, true), (4, false)], []⟩
def K89_1 : Pl := .st (.act none (.px (some 23) (.pick (.v 17) (.v 22) (.c (.bool false))))) <|
    .st (.act none (.px (some 4) (.mv (.v 23)))) .done
@[simp] def W89_1 := @Pl.wpe _ _ K89_1.eq_1
def K89_2 : Pl := .st (.act none (.px (some 16) (.pick (.v 10) (.v 15) (.c (.bool false))))) <|
    .st (.act none (.px (some 17) (.mv (.v 16)))) <|
    .st (.act (some (.v 17, true)) (.als 18 none 2)) <|
    .st (.act (some (.v 17, true)) (.pget (some 19) (some 18) 2 2 none)) <|
    .st (.act (some (.v 17, true)) (.als 20 none 3)) <|
    .st (.act (some (.v 17, true)) (.pget (some 21) (some 20) 3 2 none)) <|
    .st (.act (some (.v 17, true)) (.ex (some 22) (.call fn_slices_Equal_S_impl_Transition_impl_Transition [.v 19, .v 21]))) K89_1
@[simp] def W89_2 := @Pl.wpe _ _ K89_2.eq_1
def K89_3 : Pl := .st (.act none (.px (some 10) (.mv (.v 9)))) <|
    .st (.act (some (.v 10, true)) (.als 11 none 2)) <|
    .st (.act (some (.v 10, true)) (.pget (some 12) (some 11) 2 1 none)) <|
    .st (.act (some (.v 10, true)) (.als 13 none 3)) <|
    .st (.act (some (.v 10, true)) (.pget (some 14) (some 13) 3 1 none)) <|
    .st (.act (some (.v 10, true)) (.ex (some 15) (.call fn_slices_Equal_S_bool_bool [.v 12, .v 14]))) K89_2
@[simp] def W89_3 := @Pl.wpe _ _ K89_3.eq_1
def K89_4 : C := .seq (.pl <| .st (.ext 5 19) <|
    .st (.act none (.als 5 none 2)) <|
    .st (.act none (.pget (some 6) (some 5) 2 0 none)) <|
    .st (.act none (.als 7 none 3)) <|
    .st (.act none (.pget (some 8) (some 7) 3 0 none)) <|
    .st (.act none (.ex (some 9) (.call fn_slices_Equal_S_int_int [.v 6, .v 8]))) K89_3) (.ret)
@[simp] def W89_4 := @C.wpe _ _ K89_4.eq_1
def B_impl_AutomatonSame : C := .seq (.pl <| .st (.ext 5 0) <|
    .st (.act none (.pnew 2 (.v 0) [])) <|
    .st (.act none (.pnew 3 (.v 1) [])) <|
    .st (.act none (.px (some 4) (.mv (.c (.bool false))))) .done) K89_4
@[simp] def WB_impl_AutomatonSame := @C.wpe _ _ B_impl_AutomatonSame.eq_1
def R_impl_AutomatonSame : FIR := ⟨B_impl_AutomatonSame, 5, [(4, none)]⟩
theorem IR_impl_AutomatonSame : cfun Try.prog H_impl_AutomatonSame Try.f89 = some R_impl_AutomatonSame := by kernel_rfl
theorem EN_impl_AutomatonSame {args : List Value} {h : Heap} {k : Value → Heap → Prop} (hargs : args.length = 2) (hw : B_impl_AutomatonSame.wp Try.prog (retQ [(4, none)] k) (env0 args 5) h) : CallE Try.prog fn_impl_AutomatonSame args h k := enter Try.func89 rfl IR_impl_AutomatonSame hargs hw

def H_impl_AutomatonValid : Hint := ⟨[(0, false), (1, true), (2, false), (3, false), (4, false), (6, false), (11, false), (12, false), (13, false)], [[0, 2, 5]]⟩
def K37_1 : Pl := .st (.act (some (.v 17, true)) (.px (some 22) (.un .not (.v 21)))) <|
    .st (.act none (.px (some 23) (.pick (.v 17) (.v 22) (.c (.bool false))))) <|
    .st (.act none (.px (some 2) (.mv (.v 23)))) .done
@[simp] def W37_1 := @Pl.wpe _ _ K37_1.eq_1
def K37_2 : Pl := .st (.act none (.px (some 11) (.mv (.v 10)))) <|
    .st (.act (some (.v 11, true)) (.als 12 none 1)) <|
    .st (.act (some (.v 11, true)) (.pget (some 13) (some 12) 1 2 none)) <|
    .st (.act (some (.v 11, true)) (.px (some 14) (.lenV (.v 13)))) <|
    .st (.act (some (.v 11, true)) (.px (some 15) (.bin .leq (.v 14) (.c (.int .i64 2048))))) <|
    .st (.act none (.px (some 16) (.pick (.v 11) (.v 15) (.c (.bool false))))) <|
    .st (.act none (.px (some 17) (.mv (.v 16)))) <|
    .st (.act (some (.v 17, true)) (.als 18 none 1)) <|
    .st (.act (some (.v 17, true)) (.pget (some 19) (some 18) 1 2 none)) <|
    .st (.act (some (.v 17, true)) (.px (some 20) (.mkf (.func fn_impl_AutomatonValid_1) [] [.v 3]))) <|
    .st (.act (some (.v 17, true)) (.ex (some 21) (.call fn_slices_ContainsFunc_S_impl_Transition_impl_Transition [.v 19, .v 20]))) K37_1
@[simp] def W37_2 := @Pl.wpe _ _ K37_2.eq_1
def K37_3 : C := .seq (.pl <| .st (.ext 9 15) <|
    .st (.act none (.ld (some 9) (.v 3) none)) <|
    .st (.act none (.ex (some 10) (.call fn_impl_in [.v 9, .c (.int .i64 1), .c (.int .i64 64)]))) K37_2) (.ret)
@[simp] def W37_3 := @C.wpe _ _ K37_3.eq_1
def K37_4 : C := .pl <| .st (.ext 9 1) <|
    .st (.act none (.px (some 9) (.bin .add (.v 8) (.c (.int .i64 1))))) <|
    .st (.act none (.px (some 8) (.mv (.v 9)))) .done
@[simp] def W37_4 := @C.wpe _ _ K37_4.eq_1
def K37_5 : C := .pl <| .st (.ext 9 1) <|
    .st (.act none (.px (some 9) (.mv (.v 5)))) <|
    .st (.act none (.px (some 4) (.mv (.v 9)))) .done
@[simp] def W37_5 := @C.wpe _ _ K37_5.eq_1
def K37_6 : C := .seq (.pl <| .st (.ext 9 0) <|
    .st (.act none (.px (some 2) (.mv (.c (.bool false))))) .done) (.ret)
@[simp] def W37_6 := @C.wpe _ _ K37_6.eq_1
def K37_7 : C := .cond 9 (.v 15) K37_6 (.skip)
@[simp] def W37_7 := @C.wpe _ _ K37_7.eq_1
def K37_8 : Pl := .st (.act none (.px (some 15) (.un .not (.v 14)))) .done
@[simp] def W37_8 := @Pl.wpe _ _ K37_8.eq_1
def K37_9 : C := .seq (.seq (.pl <| .st (.ext 9 7) <|
    .st (.act none (.px (some 9) (.mv (.v 5)))) <|
    .st (.act none (.px (some 10) (.mv (.v 4)))) <|
    .st (.act none (.px (some 11) (.bin .add (.v 10) (.c (.int .i64 1))))) <|
    .st (.act none (.ld (some 12) (.v 3) none)) <|
    .st (.act none (.px (some 13) (.bin .sub (.v 12) (.c (.int .i64 1))))) <|
    .st (.act none (.ex (some 14) (.call fn_impl_in [.v 9, .v 11, .v 13]))) K37_8) K37_7) K37_5
@[simp] def W37_9 := @C.wpe _ _ K37_9.eq_1
def K37_10 : C := .seq (.block 1 (.seq (.pl <| .st (.ext 9 2) <|
    .st (.act none (.px (some 9) (.ia 1 (.v 6) (.v 8)))) <|
    .st (.act none (.ld (some 10) (.v 9) none)) <|
    .st (.act none (.px (some 5) (.mv (.v 10)))) .done) K37_9)) K37_4
@[simp] def W37_10 := @C.wpe _ _ K37_10.eq_1
def K37_11 : C := .seq (.cond 9 (.v 9) (.skip) (.exit 0)) K37_10
@[simp] def W37_11 := @C.wpe _ _ K37_11.eq_1
def K37_12 : C := .seq (.pl <| .st (.ext 9 1) <|
    .st (.act none (.px (some 9) (.bin .lss (.v 8) (.v 7)))) .done) K37_11
@[simp] def W37_12 := @C.wpe _ _ K37_12.eq_1
def K37_13 : C := .block 0 (.loop 9 [0, 2, 5] K37_12)
@[simp] def W37_13 := @C.wpe _ _ K37_13.eq_1
def K37_14 : C := .seq (.seq (.pl <| .st (.ext 9 1) <|
    .st (.act none (.als 9 none 1)) <|
    .st (.act none (.pget (some 6) (some 9) 1 0 none)) <|
    .st (.act none (.px (some 7) (.lenV (.v 6)))) <|
    .st (.act none (.px (some 8) (.mv (.c (.int .i64 0))))) .done) K37_13) K37_3
@[simp] def W37_14 := @C.wpe _ _ K37_14.eq_1
def K37_15 : C := .seq (.pl <| .st (.ext 9 0) <|
    .st (.act none (.px (some 4) (.mv (.c (.int .i64 (-1)))))) .done) K37_14
@[simp] def W37_15 := @C.wpe _ _ K37_15.eq_1
def K37_16 : Pl := .st (.act none (.ex none (.store 1 (.v 3) (.v 11)))) .done
@[simp] def W37_16 := @Pl.wpe _ _ K37_16.eq_1
def K37_17 : C := .seq (.pl <| .st (.ext 9 3) <|
    .st (.act none (.als 9 none 1)) <|
    .st (.act none (.pget (some 10) (some 9) 1 1 none)) <|
    .st (.act none (.px (some 11) (.lenV (.v 10)))) <|
    .st (.act none (.ex (some 3) (.alloc (.c (.int .i64 0))))) K37_16) K37_15
@[simp] def W37_17 := @C.wpe _ _ K37_17.eq_1
def B_impl_AutomatonValid : C := .seq (.pl <| .st (.ext 9 0) <|
    .st (.act none (.pnew 1 (.v 0) [])) <|
    .st (.act none (.px (some 2) (.mv (.c (.bool false))))) .done) K37_17
@[simp] def WB_impl_AutomatonValid := @C.wpe _ _ B_impl_AutomatonValid.eq_1
def R_impl_AutomatonValid : FIR := ⟨B_impl_AutomatonValid, 9, [(2, none)]⟩
theorem IR_impl_AutomatonValid : cfun Try.prog H_impl_AutomatonValid Try.f37 = some R_impl_AutomatonValid := by kernel_rfl
theorem EN_impl_AutomatonValid {args : List Value} {h : Heap} {k : Value → Heap → Prop} (hargs : args.length = 1) (hw : B_impl_AutomatonValid.wp Try.prog (retQ [(2, none)] k) (env0 args 9) h) : CallE Try.prog fn_impl_AutomatonValid args h k := enter Try.func37 rfl IR_impl_AutomatonValid hargs hw

def H_impl_AutomatonValid_1 : Hint := ⟨[(0, false), (1, false), (2, true), (3, false)], []⟩
def K67_1 : Pl := .st (.act (some (.v 18, false)) (.px (some 22) (.un .not (.v 21)))) <|
    .st (.act none (.px (some 23) (.pick (.v 18) (.c (.bool true)) (.v 22)))) <|
    .st (.act none (.px (some 24) (.mv (.v 23)))) <|
    .st (.act (some (.v 24, false)) (.als 25 none 2)) <|
    .st (.act (some (.v 24, false)) (.pget (some 26) (some 25) 2 2 none)) <|
    .st (.act (some (.v 24, false)) (.px (some 27) (.bin .lss (.v 26) (.c (.int .i64 0))))) <|
    .st (.act none (.px (some 28) (.pick (.v 24) (.c (.bool true)) (.v 27)))) <|
    .st (.act none (.px (some 29) (.mv (.v 28)))) <|
    .st (.act (some (.v 29, false)) (.als 30 none 2)) <|
    .st (.act (some (.v 29, false)) (.pget (some 31) (some 30) 2 2 none)) <|
    .st (.act (some (.v 29, false)) (.als 32 none 2)) <|
    .st (.act (some (.v 29, false)) (.pget (some 33) (some 32) 2 1 none)) <|
    .st (.act (some (.v 29, false)) (.px (some 34) (.bin .andNot (.v 31) (.v 33)))) <|
    .st (.act (some (.v 29, false)) (.px (some 35) (.bin .neq (.v 34) (.c (.int .i64 0))))) <|
    .st (.act none (.px (some 36) (.pick (.v 29) (.c (.bool true)) (.v 35)))) <|
    .st (.act none (.px (some 3) (.mv (.v 36)))) .done
@[simp] def W67_1 := @Pl.wpe _ _ K67_1.eq_1
def K67_2 : Pl := .st (.act (some (.v 10, false)) (.px (some 16) (.un .not (.v 15)))) <|
    .st (.act none (.px (some 17) (.pick (.v 10) (.c (.bool true)) (.v 16)))) <|
    .st (.act none (.px (some 18) (.mv (.v 17)))) <|
    .st (.act (some (.v 18, false)) (.als 19 none 2)) <|
    .st (.act (some (.v 18, false)) (.pget (some 20) (some 19) 2 1 none)) <|
    .st (.act (some (.v 18, false)) (.ex (some 21) (.call fn_impl_in [.v 20, .c (.int .i64 0), .c (.int .i64 7)]))) K67_1
@[simp] def W67_2 := @Pl.wpe _ _ K67_2.eq_1
def K67_3 : Pl := .st (.act none (.px (some 9) (.un .not (.v 8)))) <|
    .st (.act none (.px (some 10) (.mv (.v 9)))) <|
    .st (.act (some (.v 10, false)) (.als 11 none 2)) <|
    .st (.act (some (.v 10, false)) (.pget (some 12) (some 11) 2 3 none)) <|
    .st (.act (some (.v 10, false)) (.ld (some 13) (.v 1) none)) <|
    .st (.act (some (.v 10, false)) (.px (some 14) (.bin .sub (.v 13) (.c (.int .i64 1))))) <|
    .st (.act (some (.v 10, false)) (.ex (some 15) (.call fn_impl_in [.v 12, .c (.int .i64 0), .v 14]))) K67_2
@[simp] def W67_3 := @Pl.wpe _ _ K67_3.eq_1
def K67_4 : C := .seq (.pl <| .st (.ext 4 33) <|
    .st (.act none (.als 4 none 2)) <|
    .st (.act none (.pget (some 5) (some 4) 2 0 none)) <|
    .st (.act none (.ld (some 6) (.v 1) none)) <|
    .st (.act none (.px (some 7) (.bin .sub (.v 6) (.c (.int .i64 1))))) <|
    .st (.act none (.ex (some 8) (.call fn_impl_in [.v 5, .c (.int .i64 0), .v 7]))) K67_3) (.ret)
@[simp] def W67_4 := @C.wpe _ _ K67_4.eq_1
def B_impl_AutomatonValid_1 : C := .seq (.pl <| .st (.ext 4 0) <|
    .st (.act none (.pnew 2 (.v 0) [])) <|
    .st (.act none (.px (some 3) (.mv (.c (.bool false))))) .done) K67_4
@[simp] def WB_impl_AutomatonValid_1 := @C.wpe _ _ B_impl_AutomatonValid_1.eq_1
def R_impl_AutomatonValid_1 : FIR := ⟨B_impl_AutomatonValid_1, 4, [(3, none)]⟩
theorem IR_impl_AutomatonValid_1 : cfun Try.prog H_impl_AutomatonValid_1 Try.f67 = some R_impl_AutomatonValid_1 := by kernel_rfl
theorem EN_impl_AutomatonValid_1 {args : List Value} {h : Heap} {k : Value → Heap → Prop} (hargs : args.length = 2) (hw : B_impl_AutomatonValid_1.wp Try.prog (retQ [(3, none)] k) (env0 args 4) h) : CallE Try.prog fn_impl_AutomatonValid_1 args h k := enter Try.func67 rfl IR_impl_AutomatonValid_1 hargs hw

def H_impl_Automaton_after : Hint := ⟨[(0, false), (1, false), (2, false), (3, false), (4, true), (8, false), (9, false), (11, true), (16, false), (17, false), (18, false)], [[0, 4, 5, 7]]⟩
def K78_1 : C := .seq (.pl <| .st (.ext 11 1) <|
    .st (.act none (.px (some 11) (.mv (.v 6)))) <|
    .st (.act none (.px (some 5) (.mv (.v 11)))) .done) (.ret)
@[simp] def W78_1 := @C.wpe _ _ K78_1.eq_1
def K78_2 : C := .pl <| .st (.ext 11 1) <|
    .st (.act none (.px (some 11) (.bin .add (.v 10) (.c (.int .i64 1))))) <|
    .st (.act none (.px (some 10) (.mv (.v 11)))) .done
@[simp] def W78_2 := @C.wpe _ _ K78_2.eq_1
def K78_3 : C := .pl <| .st (.ext 11 4) <|
    .st (.act none (.px (some 11) (.mv (.v 6)))) <|
    .st (.act none (.als 12 none 7)) <|
    .st (.act none (.pget (some 13) (some 12) 7 3 none)) <|
    .st (.act none (.px (some 14) (.ia 1 (.v 11) (.v 13)))) <|
    .st (.act none (.ex none (.store 1 (.v 14) (.c (.bool true))))) .done
@[simp] def W78_3 := @C.wpe _ _ K78_3.eq_1
def K78_4 : C := .cond 11 (.v 27) K78_3 (.skip)
@[simp] def W78_4 := @C.wpe _ _ K78_4.eq_1
def K78_5 : Pl := .st (.act none (.px (some 27) (.pick (.v 23) (.v 26) (.c (.bool false))))) .done
@[simp] def W78_5 := @Pl.wpe _ _ K78_5.eq_1
def K78_6 : C := .seq (.pl <| .st (.ext 11 17) <|
    .st (.act none (.px (some 11) (.mv (.v 2)))) <|
    .st (.act none (.als 12 none 7)) <|
    .st (.act none (.pget (some 13) (some 12) 7 0 none)) <|
    .st (.act none (.px (some 14) (.ia 1 (.v 11) (.v 13)))) <|
    .st (.act none (.ld (some 15) (.v 14) none)) <|
    .st (.act none (.px (some 16) (.mv (.v 15)))) <|
    .st (.act (some (.v 16, true)) (.px (some 17) (.mv (.v 1)))) <|
    .st (.act (some (.v 16, true)) (.als 18 none 7)) <|
    .st (.act (some (.v 16, true)) (.pget (some 19) (some 18) 7 3 none)) <|
    .st (.act (some (.v 16, true)) (.px (some 20) (.ia 1 (.v 17) (.v 19)))) <|
    .st (.act (some (.v 16, true)) (.ld (some 21) (.v 20) none)) <|
    .st (.act none (.px (some 22) (.pick (.v 16) (.v 21) (.c (.bool false))))) <|
    .st (.act none (.px (some 23) (.mv (.v 22)))) <|
    .st (.act (some (.v 23, true)) (.pget (some 24) none 7 0 (some 4))) <|
    .st (.act (some (.v 23, true)) (.px (some 25) (.mv (.v 3)))) <|
    .st (.act (some (.v 23, true)) (.ex (some 26) (.call fn_impl_Transition_takes [.v 24, .v 25]))) K78_5) K78_4
@[simp] def W78_6 := @C.wpe _ _ K78_6.eq_1
def K78_7 : C := .seq (.block 1 (.seq (.pl <| .st (.ext 11 2) <|
    .st (.act none (.px (some 11) (.ia 4 (.v 8) (.v 10)))) <|
    .st (.act none (.ld (some 12) (.v 11) (some 4))) <|
    .st (.act none (.pnew 7 (.c (.agg #[.int .i64 0, .int .i64 0, .int .i64 0, .int .i64 0])) [])) <|
    .st (.act none (.pset none 7 0 4 (.v 12))) .done) K78_6)) K78_2
@[simp] def W78_7 := @C.wpe _ _ K78_7.eq_1
def K78_8 : C := .seq (.cond 11 (.v 11) (.skip) (.exit 0)) K78_7
@[simp] def W78_8 := @C.wpe _ _ K78_8.eq_1
def K78_9 : C := .seq (.pl <| .st (.ext 11 1) <|
    .st (.act none (.px (some 11) (.bin .lss (.v 10) (.v 9)))) .done) K78_8
@[simp] def W78_9 := @C.wpe _ _ K78_9.eq_1
def K78_10 : C := .block 0 (.loop 11 [0, 4, 5, 7] K78_9)
@[simp] def W78_10 := @C.wpe _ _ K78_10.eq_1
def K78_11 : C := .seq (.seq (.pl <| .st (.ext 11 1) <|
    .st (.act none (.als 11 none 4)) <|
    .st (.act none (.pget (some 8) (some 11) 4 2 none)) <|
    .st (.act none (.px (some 9) (.lenV (.v 8)))) <|
    .st (.act none (.px (some 10) (.mv (.c (.int .i64 0))))) .done) K78_10) K78_1
@[simp] def W78_11 := @C.wpe _ _ K78_11.eq_1
def K78_12 : Pl := .st (.act none (.px (some 6) (.mv (.v 13)))) .done
@[simp] def W78_12 := @Pl.wpe _ _ K78_12.eq_1
def K78_13 : C := .seq (.pl <| .st (.ext 11 3) <|
    .st (.act none (.px (some 11) (.mv (.v 1)))) <|
    .st (.act none (.px (some 12) (.lenV (.v 11)))) <|
    .st (.act none (.ex (some 13) (.mks 1 1 [.bool false] (.v 12) (.v 12)))) K78_12) K78_11
@[simp] def W78_13 := @C.wpe _ _ K78_13.eq_1
def B_impl_Automaton_after : C := .seq (.pl <| .st (.ext 11 0) <|
    .st (.act none (.pnew 4 (.v 0) [])) <|
    .st (.act none (.px (some 5) (.mv (.c (.slice none 0 0))))) .done) K78_13
@[simp] def WB_impl_Automaton_after := @C.wpe _ _ B_impl_Automaton_after.eq_1
def R_impl_Automaton_after : FIR := ⟨B_impl_Automaton_after, 11, [(5, none)]⟩
theorem IR_impl_Automaton_after : cfun Try.prog H_impl_Automaton_after Try.f78 = some R_impl_Automaton_after := by kernel_rfl
theorem EN_impl_Automaton_after {args : List Value} {h : Heap} {k : Value → Heap → Prop} (hargs : args.length = 4) (hw : B_impl_Automaton_after.wp Try.prog (retQ [(5, none)] k) (env0 args 11) h) : CallE Try.prog fn_impl_Automaton_after args h k := enter Try.func78 rfl IR_impl_Automaton_after hargs hw

def H_impl_Automaton_begin : Hint := ⟨[(0, false), (1, false), (2, true), (4, false), (5, false), (7, false), (12, false), (13, false), (14, false)], [[0, 2, 3, 5]]⟩
def K77_1 : C := .seq (.pl <| .st (.ext 9 1) <|
    .st (.act none (.px (some 9) (.mv (.v 4)))) <|
    .st (.act none (.px (some 3) (.mv (.v 9)))) .done) (.ret)
@[simp] def W77_1 := @C.wpe _ _ K77_1.eq_1
def K77_2 : C := .pl <| .st (.ext 9 1) <|
    .st (.act none (.px (some 9) (.bin .add (.v 8) (.c (.int .i64 1))))) <|
    .st (.act none (.px (some 8) (.mv (.v 9)))) .done
@[simp] def W77_2 := @C.wpe _ _ K77_2.eq_1
def K77_3 : C := .pl <| .st (.ext 9 7) <|
    .st (.act none (.px (some 9) (.mv (.v 4)))) <|
    .st (.act none (.px (some 10) (.mv (.v 5)))) <|
    .st (.act none (.px (some 11) (.mv (.v 1)))) <|
    .st (.act none (.px (some 12) (.mv (.v 5)))) <|
    .st (.act none (.px (some 13) (.ia 1 (.v 11) (.v 12)))) <|
    .st (.act none (.ld (some 14) (.v 13) none)) <|
    .st (.act none (.px (some 15) (.ia 1 (.v 9) (.v 10)))) <|
    .st (.act none (.ex none (.store 1 (.v 15) (.v 14)))) .done
@[simp] def W77_3 := @C.wpe _ _ K77_3.eq_1
def K77_4 : C := .seq (.block 1 (.seq (.pl <| .st (.ext 9 2) <|
    .st (.act none (.px (some 9) (.ia 1 (.v 6) (.v 8)))) <|
    .st (.act none (.ld (some 10) (.v 9) none)) <|
    .st (.act none (.px (some 5) (.mv (.v 10)))) .done) K77_3)) K77_2
@[simp] def W77_4 := @C.wpe _ _ K77_4.eq_1
def K77_5 : C := .seq (.cond 9 (.v 9) (.skip) (.exit 0)) K77_4
@[simp] def W77_5 := @C.wpe _ _ K77_5.eq_1
def K77_6 : C := .seq (.pl <| .st (.ext 9 1) <|
    .st (.act none (.px (some 9) (.bin .lss (.v 8) (.v 7)))) .done) K77_5
@[simp] def W77_6 := @C.wpe _ _ K77_6.eq_1
def K77_7 : C := .block 0 (.loop 9 [0, 2, 3, 5] K77_6)
@[simp] def W77_7 := @C.wpe _ _ K77_7.eq_1
def K77_8 : C := .seq (.seq (.pl <| .st (.ext 9 1) <|
    .st (.act none (.als 9 none 2)) <|
    .st (.act none (.pget (some 6) (some 9) 2 0 none)) <|
    .st (.act none (.px (some 7) (.lenV (.v 6)))) <|
    .st (.act none (.px (some 8) (.mv (.c (.int .i64 0))))) .done) K77_7) K77_1
@[simp] def W77_8 := @C.wpe _ _ K77_8.eq_1
def K77_9 : Pl := .st (.act none (.px (some 4) (.mv (.v 11)))) .done
@[simp] def W77_9 := @Pl.wpe _ _ K77_9.eq_1
def K77_10 : C := .seq (.pl <| .st (.ext 9 3) <|
    .st (.act none (.px (some 9) (.mv (.v 1)))) <|
    .st (.act none (.px (some 10) (.lenV (.v 9)))) <|
    .st (.act none (.ex (some 11) (.mks 1 1 [.bool false] (.v 10) (.v 10)))) K77_9) K77_8
@[simp] def W77_10 := @C.wpe _ _ K77_10.eq_1
def B_impl_Automaton_begin : C := .seq (.pl <| .st (.ext 9 0) <|
    .st (.act none (.pnew 2 (.v 0) [])) <|
    .st (.act none (.px (some 3) (.mv (.c (.slice none 0 0))))) .done) K77_10
@[simp] def WB_impl_Automaton_begin := @C.wpe _ _ B_impl_Automaton_begin.eq_1
def R_impl_Automaton_begin : FIR := ⟨B_impl_Automaton_begin, 9, [(3, none)]⟩
theorem IR_impl_Automaton_begin : cfun Try.prog H_impl_Automaton_begin Try.f77 = some R_impl_Automaton_begin := by kernel_rfl
theorem EN_impl_Automaton_begin {args : List Value} {h : Heap} {k : Value → Heap → Prop} (hargs : args.length = 2) (hw : B_impl_Automaton_begin.wp Try.prog (retQ [(3, none)] k) (env0 args 9) h) : CallE Try.prog fn_impl_Automaton_begin args h k := enter Try.func77 rfl IR_impl_Automaton_begin hargs hw

def H_impl_Automaton_copyOf : Hint := ⟨[(0, false), (1, true), (2, true)], []⟩
def K71_1 : Pl := .st (.act none (.px (some 12) (.build [.slice none 0 0, .slice none 0 0, .slice none 0 0] [(0, 1, .v 5), (1, 1, .v 8), (2, 1, .v 11)]))) <|
    .st (.act none (.pset none 2 0 3 (.v 12))) .done
@[simp] def W71_1 := @Pl.wpe _ _ K71_1.eq_1
def K71_2 : Pl := .st (.act none (.ex (some 11) (.call fn_impl_clone_impl_Transition [.v 10]))) K71_1
@[simp] def W71_2 := @Pl.wpe _ _ K71_2.eq_1
def K71_3 : Pl := .st (.act none (.ex (some 8) (.call fn_impl_clone_bool [.v 7]))) K71_2
@[simp] def W71_3 := @Pl.wpe _ _ K71_3.eq_1
def K71_4 : C := .seq (.pl <| .st (.ext 3 10) <|
    .st (.act none (.als 3 none 1)) <|
    .st (.act none (.pget (some 4) (some 3) 1 0 none)) <|
    .st (.act none (.als 6 none 1)) <|
    .st (.act none (.pget (some 7) (some 6) 1 1 none)) <|
    .st (.act none (.als 9 none 1)) <|
    .st (.act none (.pget (some 10) (some 9) 1 2 none)) <|
    .st (.act none (.ex (some 5) (.call fn_impl_clone_int [.v 4]))) K71_3) (.ret)
@[simp] def W71_4 := @C.wpe _ _ K71_4.eq_1
def B_impl_Automaton_copyOf : C := .seq (.pl <| .st (.ext 3 0) <|
    .st (.act none (.pnew 1 (.v 0) [])) <|
    .st (.act none (.pnew 2 (.c (.agg #[.slice none 0 0, .slice none 0 0, .slice none 0 0])) [])) .done) K71_4
@[simp] def WB_impl_Automaton_copyOf := @C.wpe _ _ B_impl_Automaton_copyOf.eq_1
def R_impl_Automaton_copyOf : FIR := ⟨B_impl_Automaton_copyOf, 3, [(2, some (some 3))]⟩
theorem IR_impl_Automaton_copyOf : cfun Try.prog H_impl_Automaton_copyOf Try.f71 = some R_impl_Automaton_copyOf := by kernel_rfl
theorem EN_impl_Automaton_copyOf {args : List Value} {h : Heap} {k : Value → Heap → Prop} (hargs : args.length = 1) (hw : B_impl_Automaton_copyOf.wp Try.prog (retQ [(2, some (some 3))] k) (env0 args 3) h) : CallE Try.prog fn_impl_Automaton_copyOf args h k := enter Try.func71 rfl IR_impl_Automaton_copyOf hargs hw

def H_impl_Automaton_live : Hint := ⟨[(0, false), (1, true), (2, false), (3, false), (4, false), (5, false), (6, false), (7, false), (8, false), (17, false), (18, false), (24, false), (25, false), (26, false)], [[0, 2, 6, 7, 8, 11, 12, 13], [0, 2, 7, 8]]⟩
def K70_1 : C := .seq (.pl <| .st (.ext 14 1) <|
    .st (.act none (.px (some 14) (.mv (.v 5)))) <|
    .st (.act none (.px (some 2) (.mv (.v 14)))) .done) (.ret)
@[simp] def W70_1 := @C.wpe _ _ K70_1.eq_1
def K70_2 : C := .pl <| .st (.ext 14 1) <|
    .st (.act none (.px (some 14) (.bin .add (.v 10) (.c (.int .i64 1))))) <|
    .st (.act none (.px (some 10) (.mv (.v 14)))) .done
@[simp] def W70_2 := @C.wpe _ _ K70_2.eq_1
def K70_3 : C := .pl <| .st (.ext 14 1) <|
    .st (.act none (.px (some 14) (.bin .add (.v 13) (.c (.int .i64 1))))) <|
    .st (.act none (.px (some 13) (.mv (.v 14)))) .done
@[simp] def W70_3 := @C.wpe _ _ K70_3.eq_1
def K70_4 : C := .pl <| .st (.ext 14 23) <|
    .st (.act none (.px (some 14) (.mv (.v 5)))) <|
    .st (.act none (.px (some 15) (.mv (.v 6)))) <|
    .st (.act none (.px (some 16) (.mv (.v 5)))) <|
    .st (.act none (.px (some 17) (.mv (.v 6)))) <|
    .st (.act none (.px (some 18) (.ia 1 (.v 16) (.v 17)))) <|
    .st (.act none (.ld (some 19) (.v 18) none)) <|
    .st (.act none (.px (some 20) (.mv (.v 19)))) <|
    .st (.act (some (.v 20, false)) (.px (some 21) (.mv (.v 8)))) <|
    .st (.act (some (.v 20, false)) (.px (some 22) (.mv (.v 21)))) <|
    .st (.act (some (.v 22, true)) (.px (some 23) (.mv (.v 4)))) <|
    .st (.act (some (.v 22, true)) (.px (some 24) (.mv (.v 7)))) <|
    .st (.act (some (.v 22, true)) (.px (some 25) (.ia 1 (.v 23) (.v 24)))) <|
    .st (.act (some (.v 22, true)) (.ld (some 26) (.v 25) none)) <|
    .st (.act (some (.v 20, false)) (.px (some 27) (.pick (.v 22) (.v 26) (.c (.bool false))))) <|
    .st (.act (some (.v 20, false)) (.px (some 28) (.mv (.v 27)))) <|
    .st (.act (some (.v 28, true)) (.als 29 none 1)) <|
    .st (.act (some (.v 28, true)) (.pget (some 30) (some 29) 1 1 none)) <|
    .st (.act (some (.v 28, true)) (.px (some 31) (.mv (.v 7)))) <|
    .st (.act (some (.v 28, true)) (.px (some 32) (.ia 1 (.v 30) (.v 31)))) <|
    .st (.act (some (.v 28, true)) (.ld (some 33) (.v 32) none)) <|
    .st (.act (some (.v 20, false)) (.px (some 34) (.pick (.v 28) (.v 33) (.c (.bool false))))) <|
    .st (.act none (.px (some 35) (.pick (.v 20) (.c (.bool true)) (.v 34)))) <|
    .st (.act none (.px (some 36) (.ia 1 (.v 14) (.v 15)))) <|
    .st (.act none (.ex none (.store 1 (.v 36) (.v 35)))) .done
@[simp] def W70_4 := @C.wpe _ _ K70_4.eq_1
def K70_5 : C := .seq (.block 3 (.seq (.pl <| .st (.ext 14 3) <|
    .st (.act none (.px (some 14) (.mv (.v 13)))) <|
    .st (.act none (.px (some 15) (.ia 1 (.v 11) (.v 13)))) <|
    .st (.act none (.ld (some 16) (.v 15) none)) <|
    .st (.act none (.px (some 7) (.mv (.v 14)))) <|
    .st (.act none (.px (some 8) (.mv (.v 16)))) .done) K70_4)) K70_3
@[simp] def W70_5 := @C.wpe _ _ K70_5.eq_1
def K70_6 : C := .seq (.cond 14 (.v 14) (.skip) (.exit 2)) K70_5
@[simp] def W70_6 := @C.wpe _ _ K70_6.eq_1
def K70_7 : C := .seq (.pl <| .st (.ext 14 1) <|
    .st (.act none (.px (some 14) (.bin .lss (.v 13) (.v 12)))) .done) K70_6
@[simp] def W70_7 := @C.wpe _ _ K70_7.eq_1
def K70_8 : C := .block 2 (.loop 14 [0, 2, 7, 8] K70_7)
@[simp] def W70_8 := @C.wpe _ _ K70_8.eq_1
def K70_9 : Pl := .st (.act none (.px (some 12) (.lenV (.v 11)))) <|
    .st (.act none (.px (some 13) (.mv (.c (.int .i64 0))))) .done
@[simp] def W70_9 := @Pl.wpe _ _ K70_9.eq_1
def K70_10 : Pl := .st (.act none (.ex (some 11) (.call fn_impl_reachable [.v 14, .v 16]))) K70_9
@[simp] def W70_10 := @Pl.wpe _ _ K70_10.eq_1
def K70_11 : C := .seq (.pl <| .st (.ext 14 3) <|
    .st (.act none (.px (some 14) (.mv (.v 3)))) <|
    .st (.act none (.px (some 15) (.mv (.v 6)))) <|
    .st (.act none (.ex (some 16) (.bls 1 1 [.int .i64 0] [(0, 1, .v 15)]))) K70_10) K70_8
@[simp] def W70_11 := @C.wpe _ _ K70_11.eq_1
def K70_12 : C := .seq (.block 1 (.seq (.pl <| .st (.ext 14 1) <|
    .st (.act none (.px (some 14) (.mv (.v 10)))) <|
    .st (.act none (.px (some 6) (.mv (.v 14)))) .done) K70_11)) K70_2
@[simp] def W70_12 := @C.wpe _ _ K70_12.eq_1
def K70_13 : C := .seq (.cond 14 (.v 14) (.skip) (.exit 0)) K70_12
@[simp] def W70_13 := @C.wpe _ _ K70_13.eq_1
def K70_14 : C := .seq (.pl <| .st (.ext 14 1) <|
    .st (.act none (.px (some 14) (.bin .lss (.v 10) (.v 9)))) .done) K70_13
@[simp] def W70_14 := @C.wpe _ _ K70_14.eq_1
def K70_15 : C := .block 0 (.loop 14 [0, 2, 6, 7, 8, 11, 12, 13] K70_14)
@[simp] def W70_15 := @C.wpe _ _ K70_15.eq_1
def K70_16 : C := .seq (.seq (.pl <| .st (.ext 14 1) <|
    .st (.act none (.px (some 14) (.mv (.v 3)))) <|
    .st (.act none (.px (some 9) (.lenV (.v 14)))) <|
    .st (.act none (.px (some 10) (.mv (.c (.int .i64 0))))) .done) K70_15) K70_1
@[simp] def W70_16 := @C.wpe _ _ K70_16.eq_1
def K70_17 : Pl := .st (.act none (.px (some 5) (.mv (.v 16)))) .done
@[simp] def W70_17 := @Pl.wpe _ _ K70_17.eq_1
def K70_18 : C := .seq (.pl <| .st (.ext 14 3) <|
    .st (.act none (.px (some 14) (.mv (.v 3)))) <|
    .st (.act none (.px (some 15) (.lenV (.v 14)))) <|
    .st (.act none (.ex (some 16) (.mks 1 1 [.bool false] (.v 15) (.v 15)))) K70_17) K70_16
@[simp] def W70_18 := @C.wpe _ _ K70_18.eq_1
def K70_19 : Pl := .st (.act none (.px (some 4) (.mv (.v 15)))) .done
@[simp] def W70_19 := @Pl.wpe _ _ K70_19.eq_1
def K70_20 : C := .seq (.pl <| .st (.ext 14 2) <|
    .st (.act none (.px (some 14) (.mv (.v 3)))) <|
    .st (.act none (.ex (some 15) (.call fn_impl_cyclic [.v 14]))) K70_19) K70_18
@[simp] def W70_20 := @C.wpe _ _ K70_20.eq_1
def K70_21 : Pl := .st (.act none (.px (some 3) (.mv (.v 15)))) .done
@[simp] def W70_21 := @Pl.wpe _ _ K70_21.eq_1
def K70_22 : C := .seq (.pl <| .st (.ext 14 2) <|
    .st (.act none (.pget (some 14) none 1 0 (some 3))) <|
    .st (.act none (.ex (some 15) (.call fn_impl_Automaton_next [.v 14]))) K70_21) K70_20
@[simp] def W70_22 := @C.wpe _ _ K70_22.eq_1
def B_impl_Automaton_live : C := .seq (.pl <| .st (.ext 14 0) <|
    .st (.act none (.pnew 1 (.v 0) [])) <|
    .st (.act none (.px (some 2) (.mv (.c (.slice none 0 0))))) .done) K70_22
@[simp] def WB_impl_Automaton_live := @C.wpe _ _ B_impl_Automaton_live.eq_1
def R_impl_Automaton_live : FIR := ⟨B_impl_Automaton_live, 14, [(2, none)]⟩
theorem IR_impl_Automaton_live : cfun Try.prog H_impl_Automaton_live Try.f70 = some R_impl_Automaton_live := by kernel_rfl
theorem EN_impl_Automaton_live {args : List Value} {h : Heap} {k : Value → Heap → Prop} (hargs : args.length = 1) (hw : B_impl_Automaton_live.wp Try.prog (retQ [(2, none)] k) (env0 args 14) h) : CallE Try.prog fn_impl_Automaton_live args h k := enter Try.func70 rfl IR_impl_Automaton_live hargs hw

def H_impl_Automaton_merge : Hint := ⟨[(0, false), (1, true), (2, true), (3, false), (4, false), (5, true), (6, false), (7, false), (8, false), (10, true), (11, true), (18, false), (19, false), (20, false), (55, false), (56, false), (57, false)], [[0, 3, 6, 7, 8, 9, 10, 14, 15, 16], [0, 1, 3, 6, 7, 9, 10, 11, 12, 13]]⟩
def K50_1 : Pl := .st (.act none (.pset none 2 0 3 (.v 18))) .done
@[simp] def W50_1 := @Pl.wpe _ _ K50_1.eq_1
def K50_2 : C := .seq (.pl <| .st (.ext 17 2) <|
    .st (.act none (.pget (some 17) none 5 0 (some 3))) <|
    .st (.act none (.ex (some 18) (.call fn_impl_Automaton_copyOf [.v 17]))) K50_1) (.ret)
@[simp] def W50_2 := @C.wpe _ _ K50_2.eq_1
def K50_3 : C := .pl <| .st (.ext 17 1) <|
    .st (.act none (.px (some 17) (.bin .add (.v 16) (.c (.int .i64 1))))) <|
    .st (.act none (.px (some 16) (.mv (.v 17)))) .done
@[simp] def W50_3 := @C.wpe _ _ K50_3.eq_1
def K50_4 : Pl := .st (.act none (.als 22 none 5)) <|
    .st (.act none (.pset (some 22) 5 2 1 (.v 21))) .done
@[simp] def W50_4 := @Pl.wpe _ _ K50_4.eq_1
def K50_5 : C := .pl <| .st (.ext 17 6) <|
    .st (.act none (.als 17 none 5)) <|
    .st (.act none (.pget (some 18) (some 17) 5 2 none)) <|
    .st (.act none (.pget (some 19) none 10 0 (some 4))) <|
    .st (.act none (.psl 20 [.int .i64 0, .int .i64 0, .int .i64 0, .int .i64 0] [(0, 4, .v 19)])) <|
    .st (.act none (.ex (some 21) (.app 32 4 [.int .i64 0, .int .i64 0, .int .i64 0, .int .i64 0] (.o (.v 18)) (.p 1 20)))) K50_4
@[simp] def W50_5 := @C.wpe _ _ K50_5.eq_1
def K50_6 : C := .seq (.pl <| .st (.ext 17 2) <|
    .st (.act none (.px (some 17) (.mv (.v 8)))) <|
    .st (.act none (.pget (some 18) none 10 0 (some 4))) <|
    .st (.act none (.ex none (.mput (.many [.i, .i, .i, .i]) (.v 17) (.v 18) (.c (.bool true))))) .done) K50_5
@[simp] def W50_6 := @C.wpe _ _ K50_6.eq_1
def K50_7 : C := .cond 17 (.v 20) K50_6 (.skip)
@[simp] def W50_7 := @C.wpe _ _ K50_7.eq_1
def K50_8 : Pl := .st (.act none (.px (some 20) (.un .not (.v 19)))) .done
@[simp] def W50_8 := @Pl.wpe _ _ K50_8.eq_1
def K50_9 : C := .seq (.pl <| .st (.ext 17 4) <|
    .st (.act none (.px (some 17) (.mv (.v 8)))) <|
    .st (.act none (.pget (some 18) none 10 0 (some 4))) <|
    .st (.act none (.ex (some 19) (.mget (.many [.i, .i, .i, .i]) (.bool false) false (.v 17) (.v 18)))) K50_8) K50_7
@[simp] def W50_9 := @C.wpe _ _ K50_9.eq_1
def K50_10 : C := .seq (.pl <| .st (.ext 17 15) <|
    .st (.act none (.px (some 17) (.mv (.v 4)))) <|
    .st (.act none (.als 18 none 9)) <|
    .st (.act none (.pget (some 19) (some 18) 9 0 none)) <|
    .st (.act none (.px (some 20) (.ia 1 (.v 17) (.v 19)))) <|
    .st (.act none (.ld (some 21) (.v 20) none)) <|
    .st (.act none (.als 22 none 9)) <|
    .st (.act none (.pget (some 23) (some 22) 9 1 none)) <|
    .st (.act none (.als 24 none 9)) <|
    .st (.act none (.pget (some 25) (some 24) 9 2 none)) <|
    .st (.act none (.px (some 26) (.mv (.v 4)))) <|
    .st (.act none (.als 27 none 9)) <|
    .st (.act none (.pget (some 28) (some 27) 9 3 none)) <|
    .st (.act none (.px (some 29) (.ia 1 (.v 26) (.v 28)))) <|
    .st (.act none (.ld (some 30) (.v 29) none)) <|
    .st (.act none (.px (some 31) (.build [.int .i64 0, .int .i64 0, .int .i64 0, .int .i64 0] [(0, 1, .v 21), (1, 1, .v 23), (2, 1, .v 25), (3, 1, .v 30)]))) <|
    .st (.act none (.pnew 10 (.c (.agg #[.int .i64 0, .int .i64 0, .int .i64 0, .int .i64 0])) [])) <|
    .st (.act none (.pset none 10 0 4 (.v 31))) .done) K50_9
@[simp] def W50_10 := @C.wpe _ _ K50_10.eq_1
def K50_11 : C := .seq (.block 3 (.seq (.pl <| .st (.ext 17 2) <|
    .st (.act none (.px (some 17) (.ia 4 (.v 14) (.v 16)))) <|
    .st (.act none (.ld (some 18) (.v 17) (some 4))) <|
    .st (.act none (.pnew 9 (.c (.agg #[.int .i64 0, .int .i64 0, .int .i64 0, .int .i64 0])) [])) <|
    .st (.act none (.pset none 9 0 4 (.v 18))) .done) K50_10)) K50_3
@[simp] def W50_11 := @C.wpe _ _ K50_11.eq_1
def K50_12 : C := .seq (.cond 17 (.v 17) (.skip) (.exit 2)) K50_11
@[simp] def W50_12 := @C.wpe _ _ K50_12.eq_1
def K50_13 : C := .seq (.pl <| .st (.ext 17 1) <|
    .st (.act none (.px (some 17) (.bin .lss (.v 16) (.v 15)))) .done) K50_12
@[simp] def W50_13 := @C.wpe _ _ K50_13.eq_1
def K50_14 : C := .block 2 (.loop 17 [0, 1, 3, 6, 7, 9, 10, 11, 12, 13] K50_13)
@[simp] def W50_14 := @C.wpe _ _ K50_14.eq_1
def K50_15 : C := .seq (.seq (.pl <| .st (.ext 17 1) <|
    .st (.act none (.als 17 none 1)) <|
    .st (.act none (.pget (some 14) (some 17) 1 2 none)) <|
    .st (.act none (.px (some 15) (.lenV (.v 14)))) <|
    .st (.act none (.px (some 16) (.mv (.c (.int .i64 0))))) .done) K50_14) K50_2
@[simp] def W50_15 := @C.wpe _ _ K50_15.eq_1
def K50_16 : Pl := .st (.act none (.px (some 8) (.mv (.v 17)))) .done
@[simp] def W50_16 := @Pl.wpe _ _ K50_16.eq_1
def K50_17 : C := .seq (.pl <| .st (.ext 17 1) <|
    .st (.act none (.ex (some 17) (.mkm))) K50_16) K50_15
@[simp] def W50_17 := @C.wpe _ _ K50_17.eq_1
def K50_18 : Pl := .st (.act none (.als 20 none 5)) <|
    .st (.act none (.pset (some 20) 5 0 1 (.v 19))) .done
@[simp] def W50_18 := @Pl.wpe _ _ K50_18.eq_1
def K50_19 : C := .seq (.pl <| .st (.ext 17 4) <|
    .st (.act none (.als 17 none 5)) <|
    .st (.act none (.pget (some 18) (some 17) 5 0 none)) <|
    .st (.act none (.ex (some 19) (.call fn_slices_Compact_S_int_int [.v 18]))) K50_18) K50_17
@[simp] def W50_19 := @C.wpe _ _ K50_19.eq_1
def K50_20 : C := .seq (.pl <| .st (.ext 17 3) <|
    .st (.act none (.als 17 none 5)) <|
    .st (.act none (.pget (some 18) (some 17) 5 0 none)) <|
    .st (.act none (.ex (some 19) (.call fn_slices_Sort_S_int_int [.v 18]))) .done) K50_19
@[simp] def W50_20 := @C.wpe _ _ K50_20.eq_1
def K50_21 : Pl := .st (.act none (.als 21 none 5)) <|
    .st (.act none (.pset (some 21) 5 0 1 (.v 20))) .done
@[simp] def W50_21 := @Pl.wpe _ _ K50_21.eq_1
def K50_22 : C := .seq (.pl <| .st (.ext 17 5) <|
    .st (.act none (.px (some 17) (.mv (.v 4)))) <|
    .st (.act none (.als 18 none 1)) <|
    .st (.act none (.pget (some 19) (some 18) 1 0 none)) <|
    .st (.act none (.ex (some 20) (.call fn_impl_picked [.v 17, .v 19]))) K50_21) K50_20
@[simp] def W50_22 := @C.wpe _ _ K50_22.eq_1
def K50_23 : C := .pl <| .st (.ext 17 1) <|
    .st (.act none (.px (some 17) (.bin .add (.v 13) (.c (.int .i64 1))))) <|
    .st (.act none (.px (some 13) (.mv (.v 17)))) .done
@[simp] def W50_23 := @C.wpe _ _ K50_23.eq_1
def K50_24 : Pl := .st (.act none (.als 26 none 5)) <|
    .st (.act none (.pset (some 26) 5 1 1 (.v 25))) .done
@[simp] def W50_24 := @Pl.wpe _ _ K50_24.eq_1
def K50_25 : C := .pl <| .st (.ext 17 10) <|
    .st (.act none (.als 17 none 5)) <|
    .st (.act none (.pget (some 18) (some 17) 5 1 none)) <|
    .st (.act none (.als 19 none 1)) <|
    .st (.act none (.pget (some 20) (some 19) 1 1 none)) <|
    .st (.act none (.px (some 21) (.mv (.v 6)))) <|
    .st (.act none (.px (some 22) (.ia 1 (.v 20) (.v 21)))) <|
    .st (.act none (.ld (some 23) (.v 22) none)) <|
    .st (.act none (.psl 24 [.bool false] [(0, 1, .v 23)])) <|
    .st (.act none (.ex (some 25) (.app 1 1 [.bool false] (.o (.v 18)) (.p 1 24)))) K50_24
@[simp] def W50_25 := @C.wpe _ _ K50_25.eq_1
def K50_26 : C := .cond 17 (.v 21) K50_25 (.skip)
@[simp] def W50_26 := @C.wpe _ _ K50_26.eq_1
def K50_27 : C := .seq (.pl <| .st (.ext 17 5) <|
    .st (.act none (.px (some 17) (.mv (.v 7)))) <|
    .st (.act none (.als 18 none 5)) <|
    .st (.act none (.pget (some 19) (some 18) 5 1 none)) <|
    .st (.act none (.px (some 20) (.lenV (.v 19)))) <|
    .st (.act none (.px (some 21) (.bin .eql (.v 17) (.v 20)))) .done) K50_26
@[simp] def W50_27 := @C.wpe _ _ K50_27.eq_1
def K50_28 : C := .seq (.block 1 (.seq (.pl <| .st (.ext 17 3) <|
    .st (.act none (.px (some 17) (.mv (.v 13)))) <|
    .st (.act none (.px (some 18) (.ia 1 (.v 11) (.v 13)))) <|
    .st (.act none (.ld (some 19) (.v 18) none)) <|
    .st (.act none (.px (some 6) (.mv (.v 17)))) <|
    .st (.act none (.px (some 7) (.mv (.v 19)))) .done) K50_27)) K50_23
@[simp] def W50_28 := @C.wpe _ _ K50_28.eq_1
def K50_29 : C := .seq (.cond 17 (.v 17) (.skip) (.exit 0)) K50_28
@[simp] def W50_29 := @C.wpe _ _ K50_29.eq_1
def K50_30 : C := .seq (.pl <| .st (.ext 17 1) <|
    .st (.act none (.px (some 17) (.bin .lss (.v 13) (.v 12)))) .done) K50_29
@[simp] def W50_30 := @C.wpe _ _ K50_30.eq_1
def K50_31 : C := .block 0 (.loop 17 [0, 3, 6, 7, 8, 9, 10, 14, 15, 16] K50_30)
@[simp] def W50_31 := @C.wpe _ _ K50_31.eq_1
def K50_32 : C := .seq (.seq (.pl <| .st (.ext 17 0) <|
    .st (.act none (.px (some 11) (.mv (.v 4)))) <|
    .st (.act none (.px (some 12) (.lenV (.v 11)))) <|
    .st (.act none (.px (some 13) (.mv (.c (.int .i64 0))))) .done) K50_31) K50_22
@[simp] def W50_32 := @C.wpe _ _ K50_32.eq_1
def K50_33 : C := .seq (.pl <| .st (.ext 17 0) <|
    .st (.act none (.pnew 5 (.c (.agg #[.slice none 0 0, .slice none 0 0, .slice none 0 0])) [])) .done) K50_32
@[simp] def W50_33 := @C.wpe _ _ K50_33.eq_1
def K50_34 : Pl := .st (.act none (.px (some 4) (.mv (.v 20)))) .done
@[simp] def W50_34 := @Pl.wpe _ _ K50_34.eq_1
def K50_35 : C := .seq (.pl <| .st (.ext 17 4) <|
    .st (.act none (.ld (some 17) (.v 3) none)) <|
    .st (.act none (.px (some 18) (.lenV (.v 17)))) <|
    .st (.act none (.px (some 19) (.mkf (.func fn_impl_Automaton_merge_1) [] [.v 3]))) <|
    .st (.act none (.ex (some 20) (.call fn_impl_grouped [.v 18, .v 19]))) K50_34) K50_33
@[simp] def W50_35 := @C.wpe _ _ K50_35.eq_1
def K50_36 : Pl := .st (.act none (.ex none (.store 1 (.v 3) (.v 18)))) .done
@[simp] def W50_36 := @Pl.wpe _ _ K50_36.eq_1
def K50_37 : Pl := .st (.act none (.ex (some 3) (.alloc (.c (.slice none 0 0))))) K50_36
@[simp] def W50_37 := @Pl.wpe _ _ K50_37.eq_1
def K50_38 : C := .seq (.pl <| .st (.ext 17 2) <|
    .st (.act none (.pget (some 17) none 1 0 (some 3))) <|
    .st (.act none (.ex (some 18) (.call fn_impl_Automaton_simulation [.v 17]))) K50_37) K50_35
@[simp] def W50_38 := @C.wpe _ _ K50_38.eq_1
def B_impl_Automaton_merge : C := .seq (.pl <| .st (.ext 17 0) <|
    .st (.act none (.pnew 1 (.v 0) [])) <|
    .st (.act none (.pnew 2 (.c (.agg #[.slice none 0 0, .slice none 0 0, .slice none 0 0])) [])) .done) K50_38
@[simp] def WB_impl_Automaton_merge := @C.wpe _ _ B_impl_Automaton_merge.eq_1
def R_impl_Automaton_merge : FIR := ⟨B_impl_Automaton_merge, 17, [(2, some (some 3))]⟩
theorem IR_impl_Automaton_merge : cfun Try.prog H_impl_Automaton_merge Try.f50 = some R_impl_Automaton_merge := by kernel_rfl
theorem EN_impl_Automaton_merge {args : List Value} {h : Heap} {k : Value → Heap → Prop} (hargs : args.length = 1) (hw : B_impl_Automaton_merge.wp Try.prog (retQ [(2, some (some 3))] k) (env0 args 17) h) : CallE Try.prog fn_impl_Automaton_merge args h k := enter Try.func50 rfl IR_impl_Automaton_merge hargs hw

def H_impl_Automaton_merge_1 : Hint := ⟨[(0, false), (1, false), (2, false), (5, false)], []⟩
def K84_1 : C := .seq (.pl <| .st (.ext 4 18) <|
    .st (.act none (.ld (some 4) (.v 2) none)) <|
    .st (.act none (.px (some 5) (.mv (.v 0)))) <|
    .st (.act none (.px (some 6) (.ia 1 (.v 4) (.v 5)))) <|
    .st (.act none (.ld (some 7) (.v 6) none)) <|
    .st (.act none (.px (some 8) (.mv (.v 1)))) <|
    .st (.act none (.px (some 9) (.bin .shr (.v 7) (.v 8)))) <|
    .st (.act none (.px (some 10) (.bin .and (.v 9) (.c (.int .u64 1))))) <|
    .st (.act none (.px (some 11) (.bin .eql (.v 10) (.c (.int .u64 1))))) <|
    .st (.act none (.px (some 12) (.mv (.v 11)))) <|
    .st (.act (some (.v 12, true)) (.ld (some 13) (.v 2) none)) <|
    .st (.act (some (.v 12, true)) (.px (some 14) (.mv (.v 1)))) <|
    .st (.act (some (.v 12, true)) (.px (some 15) (.ia 1 (.v 13) (.v 14)))) <|
    .st (.act (some (.v 12, true)) (.ld (some 16) (.v 15) none)) <|
    .st (.act (some (.v 12, true)) (.px (some 17) (.mv (.v 0)))) <|
    .st (.act (some (.v 12, true)) (.px (some 18) (.bin .shr (.v 16) (.v 17)))) <|
    .st (.act (some (.v 12, true)) (.px (some 19) (.bin .and (.v 18) (.c (.int .u64 1))))) <|
    .st (.act (some (.v 12, true)) (.px (some 20) (.bin .eql (.v 19) (.c (.int .u64 1))))) <|
    .st (.act none (.px (some 21) (.pick (.v 12) (.v 20) (.c (.bool false))))) <|
    .st (.act none (.px (some 3) (.mv (.v 21)))) .done) (.ret)
@[simp] def W84_1 := @C.wpe _ _ K84_1.eq_1
def B_impl_Automaton_merge_1 : C := .seq (.pl <| .st (.ext 4 0) <|
    .st (.act none (.px (some 3) (.mv (.c (.bool false))))) .done) K84_1
@[simp] def WB_impl_Automaton_merge_1 := @C.wpe _ _ B_impl_Automaton_merge_1.eq_1
def R_impl_Automaton_merge_1 : FIR := ⟨B_impl_Automaton_merge_1, 4, [(3, none)]⟩
theorem IR_impl_Automaton_merge_1 : cfun Try.prog H_impl_Automaton_merge_1 Try.f84 = some R_impl_Automaton_merge_1 := by kernel_rfl
theorem EN_impl_Automaton_merge_1 {args : List Value} {h : Heap} {k : Value → Heap → Prop} (hargs : args.length = 3) (hw : B_impl_Automaton_merge_1.wp Try.prog (retQ [(3, none)] k) (env0 args 4) h) : CallE Try.prog fn_impl_Automaton_merge_1 args h k := enter Try.func84 rfl IR_impl_Automaton_merge_1 hargs hw

def H_impl_Automaton_next : Hint := ⟨[(0, false), (1, true), (2, false), (3, false), (5, true), (11, false), (12, false), (13, false)], [[0, 1, 2, 4]]⟩
def K69_1 : C := .seq (.pl <| .st (.ext 8 1) <|
    .st (.act none (.px (some 8) (.mv (.v 3)))) <|
    .st (.act none (.px (some 2) (.mv (.v 8)))) .done) (.ret)
@[simp] def W69_1 := @C.wpe _ _ K69_1.eq_1
def K69_2 : C := .pl <| .st (.ext 8 1) <|
    .st (.act none (.px (some 8) (.bin .add (.v 7) (.c (.int .i64 1))))) <|
    .st (.act none (.px (some 7) (.mv (.v 8)))) .done
@[simp] def W69_2 := @C.wpe _ _ K69_2.eq_1
def K69_3 : Pl := .st (.act none (.px (some 20) (.ia 1 (.v 8) (.v 10)))) <|
    .st (.act none (.ex none (.store 1 (.v 20) (.v 19)))) .done
@[simp] def W69_3 := @Pl.wpe _ _ K69_3.eq_1
def K69_4 : C := .pl <| .st (.ext 8 13) <|
    .st (.act none (.px (some 8) (.mv (.v 3)))) <|
    .st (.act none (.als 9 none 4)) <|
    .st (.act none (.pget (some 10) (some 9) 4 0 none)) <|
    .st (.act none (.px (some 11) (.mv (.v 3)))) <|
    .st (.act none (.als 12 none 4)) <|
    .st (.act none (.pget (some 13) (some 12) 4 0 none)) <|
    .st (.act none (.px (some 14) (.ia 1 (.v 11) (.v 13)))) <|
    .st (.act none (.ld (some 15) (.v 14) none)) <|
    .st (.act none (.als 16 none 4)) <|
    .st (.act none (.pget (some 17) (some 16) 4 3 none)) <|
    .st (.act none (.psl 18 [.int .i64 0] [(0, 1, .v 17)])) <|
    .st (.act none (.ex (some 19) (.app 8 1 [.int .i64 0] (.o (.v 15)) (.p 1 18)))) K69_3
@[simp] def W69_4 := @C.wpe _ _ K69_4.eq_1
def K69_5 : C := .seq (.block 1 (.seq (.pl <| .st (.ext 8 2) <|
    .st (.act none (.px (some 8) (.ia 4 (.v 5) (.v 7)))) <|
    .st (.act none (.ld (some 9) (.v 8) (some 4))) <|
    .st (.act none (.pnew 4 (.c (.agg #[.int .i64 0, .int .i64 0, .int .i64 0, .int .i64 0])) [])) <|
    .st (.act none (.pset none 4 0 4 (.v 9))) .done) K69_4)) K69_2
@[simp] def W69_5 := @C.wpe _ _ K69_5.eq_1
def K69_6 : C := .seq (.cond 8 (.v 8) (.skip) (.exit 0)) K69_5
@[simp] def W69_6 := @C.wpe _ _ K69_6.eq_1
def K69_7 : C := .seq (.pl <| .st (.ext 8 1) <|
    .st (.act none (.px (some 8) (.bin .lss (.v 7) (.v 6)))) .done) K69_6
@[simp] def W69_7 := @C.wpe _ _ K69_7.eq_1
def K69_8 : C := .block 0 (.loop 8 [0, 1, 2, 4] K69_7)
@[simp] def W69_8 := @C.wpe _ _ K69_8.eq_1
def K69_9 : C := .seq (.seq (.pl <| .st (.ext 8 1) <|
    .st (.act none (.als 8 none 1)) <|
    .st (.act none (.pget (some 5) (some 8) 1 2 none)) <|
    .st (.act none (.px (some 6) (.lenV (.v 5)))) <|
    .st (.act none (.px (some 7) (.mv (.c (.int .i64 0))))) .done) K69_8) K69_1
@[simp] def W69_9 := @C.wpe _ _ K69_9.eq_1
def K69_10 : Pl := .st (.act none (.px (some 3) (.mv (.v 11)))) .done
@[simp] def W69_10 := @Pl.wpe _ _ K69_10.eq_1
def K69_11 : C := .seq (.pl <| .st (.ext 8 4) <|
    .st (.act none (.als 8 none 1)) <|
    .st (.act none (.pget (some 9) (some 8) 1 1 none)) <|
    .st (.act none (.px (some 10) (.lenV (.v 9)))) <|
    .st (.act none (.ex (some 11) (.mks 24 1 [.slice none 0 0] (.v 10) (.v 10)))) K69_10) K69_9
@[simp] def W69_11 := @C.wpe _ _ K69_11.eq_1
def B_impl_Automaton_next : C := .seq (.pl <| .st (.ext 8 0) <|
    .st (.act none (.pnew 1 (.v 0) [])) <|
    .st (.act none (.px (some 2) (.mv (.c (.slice none 0 0))))) .done) K69_11
@[simp] def WB_impl_Automaton_next := @C.wpe _ _ B_impl_Automaton_next.eq_1
def R_impl_Automaton_next : FIR := ⟨B_impl_Automaton_next, 8, [(2, none)]⟩
theorem IR_impl_Automaton_next : cfun Try.prog H_impl_Automaton_next Try.f69 = some R_impl_Automaton_next := by kernel_rfl
theorem EN_impl_Automaton_next {args : List Value} {h : Heap} {k : Value → Heap → Prop} (hargs : args.length = 1) (hw : B_impl_Automaton_next.wp Try.prog (retQ [(2, none)] k) (env0 args 8) h) : CallE Try.prog fn_impl_Automaton_next args h k := enter Try.func69 rfl IR_impl_Automaton_next hargs hw

def H_impl_Automaton_prefix : Hint := ⟨[(0, false), (1, false), (2, true), (4, false), (5, false), (6, false), (8, false), (14, false), (15, false), (16, false)], [[0, 1, 3, 6]]⟩
def K48_1 : Pl := .st (.act none (.px (some 3) (.mv (.v 11)))) .done
@[simp] def W48_1 := @Pl.wpe _ _ K48_1.eq_1
def K48_2 : C := .seq (.pl <| .st (.ext 10 2) <|
    .st (.act none (.px (some 10) (.mv (.v 5)))) <|
    .st (.act none (.ex (some 11) (.call fn_impl_members [.v 10]))) K48_1) (.ret)
@[simp] def W48_2 := @C.wpe _ _ K48_2.eq_1
def K48_3 : C := .pl <| .st (.ext 10 1) <|
    .st (.act none (.px (some 10) (.bin .add (.v 9) (.c (.int .i64 1))))) <|
    .st (.act none (.px (some 9) (.mv (.v 10)))) .done
@[simp] def W48_3 := @C.wpe _ _ K48_3.eq_1
def K48_4 : Pl := .st (.act none (.px (some 5) (.mv (.v 14)))) .done
@[simp] def W48_4 := @Pl.wpe _ _ K48_4.eq_1
def K48_5 : C := .pl <| .st (.ext 10 5) <|
    .st (.act none (.pget (some 10) none 2 0 (some 3))) <|
    .st (.act none (.px (some 11) (.mv (.v 4)))) <|
    .st (.act none (.px (some 12) (.mv (.v 5)))) <|
    .st (.act none (.px (some 13) (.mv (.v 6)))) <|
    .st (.act none (.ex (some 14) (.call fn_impl_Automaton_after [.v 10, .v 11, .v 12, .v 13]))) K48_4
@[simp] def W48_5 := @C.wpe _ _ K48_5.eq_1
def K48_6 : C := .seq (.block 1 (.seq (.pl <| .st (.ext 10 2) <|
    .st (.act none (.px (some 10) (.ia 1 (.v 7) (.v 9)))) <|
    .st (.act none (.ld (some 11) (.v 10) none)) <|
    .st (.act none (.px (some 6) (.mv (.v 11)))) .done) K48_5)) K48_3
@[simp] def W48_6 := @C.wpe _ _ K48_6.eq_1
def K48_7 : C := .seq (.cond 10 (.v 10) (.skip) (.exit 0)) K48_6
@[simp] def W48_7 := @C.wpe _ _ K48_7.eq_1
def K48_8 : C := .seq (.pl <| .st (.ext 10 1) <|
    .st (.act none (.px (some 10) (.bin .lss (.v 9) (.v 8)))) .done) K48_7
@[simp] def W48_8 := @C.wpe _ _ K48_8.eq_1
def K48_9 : C := .block 0 (.loop 10 [0, 1, 3, 6] K48_8)
@[simp] def W48_9 := @C.wpe _ _ K48_9.eq_1
def K48_10 : C := .seq (.seq (.pl <| .st (.ext 10 0) <|
    .st (.act none (.px (some 7) (.mv (.v 1)))) <|
    .st (.act none (.px (some 8) (.lenV (.v 7)))) <|
    .st (.act none (.px (some 9) (.mv (.c (.int .i64 0))))) .done) K48_9) K48_2
@[simp] def W48_10 := @C.wpe _ _ K48_10.eq_1
def K48_11 : Pl := .st (.act none (.px (some 5) (.mv (.v 12)))) .done
@[simp] def W48_11 := @Pl.wpe _ _ K48_11.eq_1
def K48_12 : C := .seq (.pl <| .st (.ext 10 3) <|
    .st (.act none (.pget (some 10) none 2 0 (some 3))) <|
    .st (.act none (.px (some 11) (.mv (.v 4)))) <|
    .st (.act none (.ex (some 12) (.call fn_impl_Automaton_begin [.v 10, .v 11]))) K48_11) K48_10
@[simp] def W48_12 := @C.wpe _ _ K48_12.eq_1
def K48_13 : Pl := .st (.act none (.px (some 4) (.mv (.v 11)))) .done
@[simp] def W48_13 := @Pl.wpe _ _ K48_13.eq_1
def K48_14 : C := .seq (.pl <| .st (.ext 10 2) <|
    .st (.act none (.pget (some 10) none 2 0 (some 3))) <|
    .st (.act none (.ex (some 11) (.call fn_impl_Automaton_live [.v 10]))) K48_13) K48_12
@[simp] def W48_14 := @C.wpe _ _ K48_14.eq_1
def B_impl_Automaton_prefix : C := .seq (.pl <| .st (.ext 10 0) <|
    .st (.act none (.pnew 2 (.v 0) [])) <|
    .st (.act none (.px (some 3) (.mv (.c (.slice none 0 0))))) .done) K48_14
@[simp] def WB_impl_Automaton_prefix := @C.wpe _ _ B_impl_Automaton_prefix.eq_1
def R_impl_Automaton_prefix : FIR := ⟨B_impl_Automaton_prefix, 10, [(3, none)]⟩
theorem IR_impl_Automaton_prefix : cfun Try.prog H_impl_Automaton_prefix Try.f48 = some R_impl_Automaton_prefix := by kernel_rfl
theorem EN_impl_Automaton_prefix {args : List Value} {h : Heap} {k : Value → Heap → Prop} (hargs : args.length = 2) (hw : B_impl_Automaton_prefix.wp Try.prog (retQ [(3, none)] k) (env0 args 10) h) : CallE Try.prog fn_impl_Automaton_prefix args h k := enter Try.func48 rfl IR_impl_Automaton_prefix hargs hw

def H_impl_Automaton_simplify : Hint := ⟨[(0, false), (1, true), (2, true), (3, true)], [[0, 3]]⟩
def K52_1 : C := .pl <| .st (.ext 4 1) <|
    .st (.act none (.pget (some 4) none 3 0 (some 3))) <|
    .st (.act none (.pset none 1 0 3 (.v 4))) .done
@[simp] def W52_1 := @C.wpe _ _ K52_1.eq_1
def K52_2 : C := .seq (.pl <| .st (.ext 4 1) <|
    .st (.act none (.pget (some 4) none 3 0 (some 3))) <|
    .st (.act none (.pset none 2 0 3 (.v 4))) .done) (.ret)
@[simp] def W52_2 := @C.wpe _ _ K52_2.eq_1
def K52_3 : C := .cond 4 (.v 6) K52_2 (.skip)
@[simp] def W52_3 := @C.wpe _ _ K52_3.eq_1
def K52_4 : C := .seq (.seq (.pl <| .st (.ext 4 3) <|
    .st (.act none (.pget (some 4) none 3 0 (some 3))) <|
    .st (.act none (.pget (some 5) none 1 0 (some 3))) <|
    .st (.act none (.ex (some 6) (.call fn_impl_AutomatonSame [.v 4, .v 5]))) .done) K52_3) K52_1
@[simp] def W52_4 := @C.wpe _ _ K52_4.eq_1
def K52_5 : Pl := .st (.act none (.pnew 3 (.c (.agg #[.slice none 0 0, .slice none 0 0, .slice none 0 0])) [])) <|
    .st (.act none (.pset none 3 0 3 (.v 6))) .done
@[simp] def W52_5 := @Pl.wpe _ _ K52_5.eq_1
def K52_6 : Pl := .st (.act none (.ex (some 6) (.call fn_impl_Automaton_merge [.v 5]))) K52_5
@[simp] def W52_6 := @Pl.wpe _ _ K52_6.eq_1
def K52_7 : C := .block 1 (.seq (.pl <| .st (.ext 4 3) <|
    .st (.act none (.pget (some 4) none 1 0 (some 3))) <|
    .st (.act none (.ex (some 5) (.call fn_impl_Automaton_trim [.v 4]))) K52_6) K52_4)
@[simp] def W52_7 := @C.wpe _ _ K52_7.eq_1
def K52_8 : C := .block 0 (.loop 4 [0, 3] K52_7)
@[simp] def W52_8 := @C.wpe _ _ K52_8.eq_1
def B_impl_Automaton_simplify : C := .seq (.pl <| .st (.ext 4 0) <|
    .st (.act none (.pnew 1 (.v 0) [])) <|
    .st (.act none (.pnew 2 (.c (.agg #[.slice none 0 0, .slice none 0 0, .slice none 0 0])) [])) .done) K52_8
@[simp] def WB_impl_Automaton_simplify := @C.wpe _ _ B_impl_Automaton_simplify.eq_1
def R_impl_Automaton_simplify : FIR := ⟨B_impl_Automaton_simplify, 4, [(2, some (some 3))]⟩
theorem IR_impl_Automaton_simplify : cfun Try.prog H_impl_Automaton_simplify Try.f52 = some R_impl_Automaton_simplify := by kernel_rfl
theorem EN_impl_Automaton_simplify {args : List Value} {h : Heap} {k : Value → Heap → Prop} (hargs : args.length = 1) (hw : B_impl_Automaton_simplify.wp Try.prog (retQ [(2, some (some 3))] k) (env0 args 4) h) : CallE Try.prog fn_impl_Automaton_simplify args h k := enter Try.func52 rfl IR_impl_Automaton_simplify hargs hw

def H_impl_Automaton_simulation : Hint := ⟨[(0, false), (1, true), (2, false), (3, false), (4, false), (6, true), (7, false), (8, false), (9, false), (10, false), (11, false), (12, false), (13, false), (14, false), (21, false), (22, false), (23, false), (27, false), (51, false), (52, false), (55, false), (56, false), (84, false), (85, false), (88, false), (89, false)], [[0, 2, 5, 6, 7, 8, 9, 10, 11, 12, 13, 17, 18, 19, 20, 21, 22, 23, 24, 25], [0, 2, 6, 7, 8, 9, 10, 11, 12, 13, 18, 19, 20, 21, 22, 23, 24, 25], [0, 2, 5, 6, 8, 9, 10, 11, 12, 13, 14, 15, 16, 17, 20, 21, 22, 23, 24, 25], [0, 2, 5, 6, 9, 10, 11, 12, 13, 14, 15, 16, 17, 22, 23, 24, 25], [0, 1, 2, 4, 5, 6, 8, 9, 12, 13, 14, 15, 16, 17, 18, 19, 20, 21, 22, 23, 24, 25], [0, 1, 2, 4, 5, 6, 8, 9, 12, 13, 14, 15, 16, 17, 18, 19, 20, 21, 24, 25], [0, 1, 2, 4, 5, 6, 8, 9, 13, 14, 15, 16, 17, 18, 19, 20, 21]]⟩
def K82_1 : C := .seq (.pl <| .st (.ext 26 1) <|
    .st (.act none (.ld (some 26) (.v 7) none)) <|
    .st (.act none (.px (some 2) (.mv (.v 26)))) .done) (.ret)
@[simp] def W82_1 := @C.wpe _ _ K82_1.eq_1
def K82_2 : C := .pl <| .st (.ext 26 1) <|
    .st (.act none (.px (some 26) (.bin .add (.v 23) (.c (.int .i64 1))))) <|
    .st (.act none (.px (some 23) (.mv (.v 26)))) .done
@[simp] def W82_2 := @C.wpe _ _ K82_2.eq_1
def K82_3 : C := .pl <| .st (.ext 26 1) <|
    .st (.act none (.px (some 26) (.bin .add (.v 25) (.c (.int .i64 1))))) <|
    .st (.act none (.px (some 25) (.mv (.v 26)))) .done
@[simp] def W82_3 := @C.wpe _ _ K82_3.eq_1
def K82_4 : C := .pl <| .st (.ext 26 0) <|
    .st (.act none (.px (some 11) (.mv (.c (.bool true))))) .done
@[simp] def W82_4 := @C.wpe _ _ K82_4.eq_1
def K82_5 : C := .seq (.pl <| .st (.ext 26 8) <|
    .st (.act none (.ld (some 26) (.v 7) none)) <|
    .st (.act none (.px (some 27) (.mv (.v 12)))) <|
    .st (.act none (.px (some 28) (.ia 1 (.v 26) (.v 27)))) <|
    .st (.act none (.ld (some 29) (.v 28) none)) <|
    .st (.act none (.px (some 30) (.mv (.v 13)))) <|
    .st (.act none (.px (some 31) (.bin .shl (.c (.int .u64 1)) (.v 30)))) <|
    .st (.act none (.px (some 32) (.bin .andNot (.v 29) (.v 31)))) <|
    .st (.act none (.px (some 33) (.ia 1 (.v 26) (.v 27)))) <|
    .st (.act none (.ex none (.store 1 (.v 33) (.v 32)))) .done) K82_4
@[simp] def W82_5 := @C.wpe _ _ K82_5.eq_1
def K82_6 : C := .cond 26 (.v 40) K82_5 (.skip)
@[simp] def W82_6 := @C.wpe _ _ K82_6.eq_1
def K82_7 : Pl := .st (.act (some (.v 34, true)) (.px (some 39) (.un .not (.v 38)))) <|
    .st (.act none (.px (some 40) (.pick (.v 34) (.v 39) (.c (.bool false))))) .done
@[simp] def W82_7 := @Pl.wpe _ _ K82_7.eq_1
def K82_8 : C := .seq (.pl <| .st (.ext 26 15) <|
    .st (.act none (.ld (some 26) (.v 7) none)) <|
    .st (.act none (.px (some 27) (.mv (.v 12)))) <|
    .st (.act none (.px (some 28) (.ia 1 (.v 26) (.v 27)))) <|
    .st (.act none (.ld (some 29) (.v 28) none)) <|
    .st (.act none (.px (some 30) (.mv (.v 13)))) <|
    .st (.act none (.px (some 31) (.bin .shr (.v 29) (.v 30)))) <|
    .st (.act none (.px (some 32) (.bin .and (.v 31) (.c (.int .u64 1))))) <|
    .st (.act none (.px (some 33) (.bin .eql (.v 32) (.c (.int .u64 1))))) <|
    .st (.act none (.px (some 34) (.mv (.v 33)))) <|
    .st (.act (some (.v 34, true)) (.px (some 35) (.mv (.v 10)))) <|
    .st (.act (some (.v 34, true)) (.px (some 36) (.mv (.v 13)))) <|
    .st (.act (some (.v 34, true)) (.px (some 37) (.mv (.v 12)))) <|
    .st (.act (some (.v 34, true)) (.ex (some 38) (.callv (.v 35) [.v 36, .v 37]))) K82_7) K82_6
@[simp] def W82_8 := @C.wpe _ _ K82_8.eq_1
def K82_9 : C := .seq (.block 13 (.seq (.pl <| .st (.ext 26 1) <|
    .st (.act none (.px (some 26) (.mv (.v 25)))) <|
    .st (.act none (.px (some 13) (.mv (.v 26)))) .done) K82_8)) K82_3
@[simp] def W82_9 := @C.wpe _ _ K82_9.eq_1
def K82_10 : C := .seq (.cond 26 (.v 26) (.skip) (.exit 12)) K82_9
@[simp] def W82_10 := @C.wpe _ _ K82_10.eq_1
def K82_11 : C := .seq (.pl <| .st (.ext 26 1) <|
    .st (.act none (.px (some 26) (.bin .lss (.v 25) (.v 24)))) .done) K82_10
@[simp] def W82_11 := @C.wpe _ _ K82_11.eq_1
def K82_12 : C := .block 12 (.loop 26 [0, 1, 2, 4, 5, 6, 8, 9, 13, 14, 15, 16, 17, 18, 19, 20, 21] K82_11)
@[simp] def W82_12 := @C.wpe _ _ K82_12.eq_1
def K82_13 : C := .seq (.pl <| .st (.ext 26 0) <|
    .st (.act none (.ld (some 24) (.v 3) none)) <|
    .st (.act none (.px (some 25) (.mv (.c (.int .i64 0))))) .done) K82_12
@[simp] def W82_13 := @C.wpe _ _ K82_13.eq_1
def K82_14 : C := .seq (.block 11 (.seq (.pl <| .st (.ext 26 1) <|
    .st (.act none (.px (some 26) (.mv (.v 23)))) <|
    .st (.act none (.px (some 12) (.mv (.v 26)))) .done) K82_13)) K82_2
@[simp] def W82_14 := @C.wpe _ _ K82_14.eq_1
def K82_15 : C := .seq (.cond 26 (.v 26) (.skip) (.exit 10)) K82_14
@[simp] def W82_15 := @C.wpe _ _ K82_15.eq_1
def K82_16 : C := .seq (.pl <| .st (.ext 26 1) <|
    .st (.act none (.px (some 26) (.bin .lss (.v 23) (.v 22)))) .done) K82_15
@[simp] def W82_16 := @C.wpe _ _ K82_16.eq_1
def K82_17 : C := .block 10 (.loop 26 [0, 1, 2, 4, 5, 6, 8, 9, 12, 13, 14, 15, 16, 17, 18, 19, 20, 21, 24, 25] K82_16)
@[simp] def W82_17 := @C.wpe _ _ K82_17.eq_1
def K82_18 : C := .seq (.pl <| .st (.ext 26 0) <|
    .st (.act none (.ld (some 22) (.v 3) none)) <|
    .st (.act none (.px (some 23) (.mv (.c (.int .i64 0))))) .done) K82_17
@[simp] def W82_18 := @C.wpe _ _ K82_18.eq_1
def K82_19 : C := .block 9 (.seq (.pl <| .st (.ext 26 0) <|
    .st (.act none (.px (some 11) (.mv (.c (.bool false))))) .done) K82_18)
@[simp] def W82_19 := @C.wpe _ _ K82_19.eq_1
def K82_20 : C := .cond 26 (.v 26) (.skip) (.exit 8)
@[simp] def W82_20 := @C.wpe _ _ K82_20.eq_1
def K82_21 : C := .seq (.seq (.pl <| .st (.ext 26 1) <|
    .st (.act none (.px (some 26) (.mv (.v 11)))) .done) K82_20) K82_19
@[simp] def W82_21 := @C.wpe _ _ K82_21.eq_1
def K82_22 : C := .block 8 (.loop 26 [0, 1, 2, 4, 5, 6, 8, 9, 12, 13, 14, 15, 16, 17, 18, 19, 20, 21, 22, 23, 24, 25] K82_21)
@[simp] def W82_22 := @C.wpe _ _ K82_22.eq_1
def K82_23 : C := .seq (.seq (.pl <| .st (.ext 26 0) <|
    .st (.act none (.px (some 11) (.mv (.c (.bool true))))) .done) K82_22) K82_1
@[simp] def W82_23 := @C.wpe _ _ K82_23.eq_1
def K82_24 : C := .seq (.pl <| .st (.ext 26 1) <|
    .st (.act none (.px (some 26) (.mkf (.func fn_impl_Automaton_simulation_1) [] [.v 3, .v 4, .v 7]))) <|
    .st (.act none (.px (some 10) (.mv (.v 26)))) .done) K82_23
@[simp] def W82_24 := @C.wpe _ _ K82_24.eq_1
def K82_25 : C := .pl <| .st (.ext 26 1) <|
    .st (.act none (.px (some 26) (.bin .add (.v 19) (.c (.int .i64 1))))) <|
    .st (.act none (.px (some 19) (.mv (.v 26)))) .done
@[simp] def W82_25 := @C.wpe _ _ K82_25.eq_1
def K82_26 : C := .pl <| .st (.ext 26 1) <|
    .st (.act none (.px (some 26) (.bin .add (.v 21) (.c (.int .i64 1))))) <|
    .st (.act none (.px (some 21) (.mv (.v 26)))) .done
@[simp] def W82_26 := @C.wpe _ _ K82_26.eq_1
def K82_27 : C := .pl <| .st (.ext 26 8) <|
    .st (.act none (.ld (some 26) (.v 7) none)) <|
    .st (.act none (.px (some 27) (.mv (.v 8)))) <|
    .st (.act none (.px (some 28) (.ia 1 (.v 26) (.v 27)))) <|
    .st (.act none (.ld (some 29) (.v 28) none)) <|
    .st (.act none (.px (some 30) (.mv (.v 9)))) <|
    .st (.act none (.px (some 31) (.bin .shl (.c (.int .u64 1)) (.v 30)))) <|
    .st (.act none (.px (some 32) (.bin .or (.v 29) (.v 31)))) <|
    .st (.act none (.px (some 33) (.ia 1 (.v 26) (.v 27)))) <|
    .st (.act none (.ex none (.store 1 (.v 33) (.v 32)))) .done
@[simp] def W82_27 := @C.wpe _ _ K82_27.eq_1
def K82_28 : C := .cond 26 (.v 38) K82_27 (.skip)
@[simp] def W82_28 := @C.wpe _ _ K82_28.eq_1
def K82_29 : C := .seq (.pl <| .st (.ext 26 13) <|
    .st (.act none (.als 26 none 1)) <|
    .st (.act none (.pget (some 27) (some 26) 1 1 none)) <|
    .st (.act none (.px (some 28) (.mv (.v 9)))) <|
    .st (.act none (.px (some 29) (.ia 1 (.v 27) (.v 28)))) <|
    .st (.act none (.ld (some 30) (.v 29) none)) <|
    .st (.act none (.px (some 31) (.mv (.v 30)))) <|
    .st (.act (some (.v 31, false)) (.als 32 none 1)) <|
    .st (.act (some (.v 31, false)) (.pget (some 33) (some 32) 1 1 none)) <|
    .st (.act (some (.v 31, false)) (.px (some 34) (.mv (.v 8)))) <|
    .st (.act (some (.v 31, false)) (.px (some 35) (.ia 1 (.v 33) (.v 34)))) <|
    .st (.act (some (.v 31, false)) (.ld (some 36) (.v 35) none)) <|
    .st (.act (some (.v 31, false)) (.px (some 37) (.un .not (.v 36)))) <|
    .st (.act none (.px (some 38) (.pick (.v 31) (.c (.bool true)) (.v 37)))) .done) K82_28
@[simp] def W82_29 := @C.wpe _ _ K82_29.eq_1
def K82_30 : C := .seq (.block 7 (.seq (.pl <| .st (.ext 26 1) <|
    .st (.act none (.px (some 26) (.mv (.v 21)))) <|
    .st (.act none (.px (some 9) (.mv (.v 26)))) .done) K82_29)) K82_26
@[simp] def W82_30 := @C.wpe _ _ K82_30.eq_1
def K82_31 : C := .seq (.cond 26 (.v 26) (.skip) (.exit 6)) K82_30
@[simp] def W82_31 := @C.wpe _ _ K82_31.eq_1
def K82_32 : C := .seq (.pl <| .st (.ext 26 1) <|
    .st (.act none (.px (some 26) (.bin .lss (.v 21) (.v 20)))) .done) K82_31
@[simp] def W82_32 := @C.wpe _ _ K82_32.eq_1
def K82_33 : C := .block 6 (.loop 26 [0, 2, 5, 6, 9, 10, 11, 12, 13, 14, 15, 16, 17, 22, 23, 24, 25] K82_32)
@[simp] def W82_33 := @C.wpe _ _ K82_33.eq_1
def K82_34 : C := .seq (.pl <| .st (.ext 26 0) <|
    .st (.act none (.ld (some 20) (.v 3) none)) <|
    .st (.act none (.px (some 21) (.mv (.c (.int .i64 0))))) .done) K82_33
@[simp] def W82_34 := @C.wpe _ _ K82_34.eq_1
def K82_35 : C := .seq (.block 5 (.seq (.pl <| .st (.ext 26 1) <|
    .st (.act none (.px (some 26) (.mv (.v 19)))) <|
    .st (.act none (.px (some 8) (.mv (.v 26)))) .done) K82_34)) K82_25
@[simp] def W82_35 := @C.wpe _ _ K82_35.eq_1
def K82_36 : C := .seq (.cond 26 (.v 26) (.skip) (.exit 4)) K82_35
@[simp] def W82_36 := @C.wpe _ _ K82_36.eq_1
def K82_37 : C := .seq (.pl <| .st (.ext 26 1) <|
    .st (.act none (.px (some 26) (.bin .lss (.v 19) (.v 18)))) .done) K82_36
@[simp] def W82_37 := @C.wpe _ _ K82_37.eq_1
def K82_38 : C := .block 4 (.loop 26 [0, 2, 5, 6, 8, 9, 10, 11, 12, 13, 14, 15, 16, 17, 20, 21, 22, 23, 24, 25] K82_37)
@[simp] def W82_38 := @C.wpe _ _ K82_38.eq_1
def K82_39 : C := .seq (.seq (.pl <| .st (.ext 26 1) <|
    .st (.act none (.ld (some 26) (.v 7) none)) <|
    .st (.act none (.px (some 18) (.lenV (.v 26)))) <|
    .st (.act none (.px (some 19) (.mv (.c (.int .i64 0))))) .done) K82_38) K82_24
@[simp] def W82_39 := @C.wpe _ _ K82_39.eq_1
def K82_40 : Pl := .st (.act none (.ex none (.store 1 (.v 7) (.v 27)))) .done
@[simp] def W82_40 := @Pl.wpe _ _ K82_40.eq_1
def K82_41 : Pl := .st (.act none (.ex (some 7) (.alloc (.c (.slice none 0 0))))) K82_40
@[simp] def W82_41 := @Pl.wpe _ _ K82_41.eq_1
def K82_42 : C := .seq (.pl <| .st (.ext 26 2) <|
    .st (.act none (.ld (some 26) (.v 3) none)) <|
    .st (.act none (.ex (some 27) (.mks 8 1 [.int .u64 0] (.v 26) (.v 26)))) K82_41) K82_39
@[simp] def W82_42 := @C.wpe _ _ K82_42.eq_1
def K82_43 : C := .pl <| .st (.ext 26 1) <|
    .st (.act none (.px (some 26) (.bin .add (.v 16) (.c (.int .i64 1))))) <|
    .st (.act none (.px (some 16) (.mv (.v 26)))) .done
@[simp] def W82_43 := @C.wpe _ _ K82_43.eq_1
def K82_44 : C := .pl <| .st (.ext 26 1) <|
    .st (.act none (.px (some 26) (.bin .add (.v 17) (.c (.int .i64 1))))) <|
    .st (.act none (.px (some 17) (.mv (.v 26)))) .done
@[simp] def W82_44 := @C.wpe _ _ K82_44.eq_1
def K82_45 : C := .pl <| .st (.ext 26 13) <|
    .st (.act none (.ld (some 26) (.v 4) none)) <|
    .st (.act none (.als 27 none 5)) <|
    .st (.act none (.pget (some 28) (some 27) 5 0 none)) <|
    .st (.act none (.px (some 29) (.mv (.v 6)))) <|
    .st (.act none (.px (some 30) (.ia 8 (.v 26) (.v 28)))) <|
    .st (.act none (.px (some 31) (.iaA 8 1 (.v 30) (.v 29)))) <|
    .st (.act none (.ld (some 32) (.v 31) none)) <|
    .st (.act none (.als 33 none 5)) <|
    .st (.act none (.pget (some 34) (some 33) 5 3 none)) <|
    .st (.act none (.px (some 35) (.bin .shl (.c (.int .u64 1)) (.v 34)))) <|
    .st (.act none (.px (some 36) (.bin .or (.v 32) (.v 35)))) <|
    .st (.act none (.px (some 37) (.ia 8 (.v 26) (.v 28)))) <|
    .st (.act none (.px (some 38) (.iaA 8 1 (.v 37) (.v 29)))) <|
    .st (.act none (.ex none (.store 1 (.v 38) (.v 36)))) .done
@[simp] def W82_45 := @C.wpe _ _ K82_45.eq_1
def K82_46 : C := .cond 26 (.v 28) K82_45 (.skip)
@[simp] def W82_46 := @C.wpe _ _ K82_46.eq_1
def K82_47 : C := .seq (.pl <| .st (.ext 26 3) <|
    .st (.act none (.pget (some 26) none 5 0 (some 4))) <|
    .st (.act none (.px (some 27) (.mv (.v 6)))) <|
    .st (.act none (.ex (some 28) (.call fn_impl_Transition_takes [.v 26, .v 27]))) .done) K82_46
@[simp] def W82_47 := @C.wpe _ _ K82_47.eq_1
def K82_48 : C := .seq (.block 3 (.seq (.pl <| .st (.ext 26 1) <|
    .st (.act none (.px (some 26) (.mv (.v 17)))) <|
    .st (.act none (.px (some 6) (.mv (.v 26)))) .done) K82_47)) K82_44
@[simp] def W82_48 := @C.wpe _ _ K82_48.eq_1
def K82_49 : C := .seq (.cond 26 (.v 26) (.skip) (.exit 2)) K82_48
@[simp] def W82_49 := @C.wpe _ _ K82_49.eq_1
def K82_50 : C := .seq (.pl <| .st (.ext 26 1) <|
    .st (.act none (.px (some 26) (.bin .lss (.v 17) (.c (.int .i64 8))))) .done) K82_49
@[simp] def W82_50 := @C.wpe _ _ K82_50.eq_1
def K82_51 : C := .block 2 (.loop 26 [0, 2, 6, 7, 8, 9, 10, 11, 12, 13, 18, 19, 20, 21, 22, 23, 24, 25] K82_50)
@[simp] def W82_51 := @C.wpe _ _ K82_51.eq_1
def K82_52 : C := .seq (.pl <| .st (.ext 26 0) <|
    .st (.act none (.px (some 17) (.mv (.c (.int .i64 0))))) .done) K82_51
@[simp] def W82_52 := @C.wpe _ _ K82_52.eq_1
def K82_53 : C := .seq (.block 1 (.seq (.pl <| .st (.ext 26 2) <|
    .st (.act none (.px (some 26) (.ia 4 (.v 14) (.v 16)))) <|
    .st (.act none (.ld (some 27) (.v 26) (some 4))) <|
    .st (.act none (.pnew 5 (.c (.agg #[.int .i64 0, .int .i64 0, .int .i64 0, .int .i64 0])) [])) <|
    .st (.act none (.pset none 5 0 4 (.v 27))) .done) K82_52)) K82_43
@[simp] def W82_53 := @C.wpe _ _ K82_53.eq_1
def K82_54 : C := .seq (.cond 26 (.v 26) (.skip) (.exit 0)) K82_53
@[simp] def W82_54 := @C.wpe _ _ K82_54.eq_1
def K82_55 : C := .seq (.pl <| .st (.ext 26 1) <|
    .st (.act none (.px (some 26) (.bin .lss (.v 16) (.v 15)))) .done) K82_54
@[simp] def W82_55 := @C.wpe _ _ K82_55.eq_1
def K82_56 : C := .block 0 (.loop 26 [0, 2, 5, 6, 7, 8, 9, 10, 11, 12, 13, 17, 18, 19, 20, 21, 22, 23, 24, 25] K82_55)
@[simp] def W82_56 := @C.wpe _ _ K82_56.eq_1
def K82_57 : C := .seq (.seq (.pl <| .st (.ext 26 1) <|
    .st (.act none (.als 26 none 1)) <|
    .st (.act none (.pget (some 14) (some 26) 1 2 none)) <|
    .st (.act none (.px (some 15) (.lenV (.v 14)))) <|
    .st (.act none (.px (some 16) (.mv (.c (.int .i64 0))))) .done) K82_56) K82_42
@[simp] def W82_57 := @C.wpe _ _ K82_57.eq_1
def K82_58 : Pl := .st (.act none (.ex none (.store 1 (.v 4) (.v 27)))) .done
@[simp] def W82_58 := @Pl.wpe _ _ K82_58.eq_1
def K82_59 : Pl := .st (.act none (.ex (some 4) (.alloc (.c (.slice none 0 0))))) K82_58
@[simp] def W82_59 := @Pl.wpe _ _ K82_59.eq_1
def K82_60 : C := .seq (.pl <| .st (.ext 26 2) <|
    .st (.act none (.ld (some 26) (.v 3) none)) <|
    .st (.act none (.ex (some 27) (.mks 64 8 [.int .u64 0, .int .u64 0, .int .u64 0, .int .u64 0, .int .u64 0, .int .u64 0, .int .u64 0, .int .u64 0] (.v 26) (.v 26)))) K82_59) K82_57
@[simp] def W82_60 := @C.wpe _ _ K82_60.eq_1
def K82_61 : Pl := .st (.act none (.ex none (.store 1 (.v 3) (.v 28)))) .done
@[simp] def W82_61 := @Pl.wpe _ _ K82_61.eq_1
def K82_62 : C := .seq (.pl <| .st (.ext 26 3) <|
    .st (.act none (.als 26 none 1)) <|
    .st (.act none (.pget (some 27) (some 26) 1 1 none)) <|
    .st (.act none (.px (some 28) (.lenV (.v 27)))) <|
    .st (.act none (.ex (some 3) (.alloc (.c (.int .i64 0))))) K82_61) K82_60
@[simp] def W82_62 := @C.wpe _ _ K82_62.eq_1
def B_impl_Automaton_simulation : C := .seq (.pl <| .st (.ext 26 0) <|
    .st (.act none (.pnew 1 (.v 0) [])) <|
    .st (.act none (.px (some 2) (.mv (.c (.slice none 0 0))))) .done) K82_62
@[simp] def WB_impl_Automaton_simulation := @C.wpe _ _ B_impl_Automaton_simulation.eq_1
def R_impl_Automaton_simulation : FIR := ⟨B_impl_Automaton_simulation, 26, [(2, none)]⟩
theorem IR_impl_Automaton_simulation : cfun Try.prog H_impl_Automaton_simulation Try.f82 = some R_impl_Automaton_simulation := by kernel_rfl
theorem EN_impl_Automaton_simulation {args : List Value} {h : Heap} {k : Value → Heap → Prop} (hargs : args.length = 1) (hw : B_impl_Automaton_simulation.wp Try.prog (retQ [(2, none)] k) (env0 args 26) h) : CallE Try.prog fn_impl_Automaton_simulation args h k := enter Try.func82 rfl IR_impl_Automaton_simulation hargs hw

def H_impl_Automaton_simulation_1 : Hint := ⟨[(0, false), (1, false), (2, false), (3, false), (4, false), (7, false), (8, false), (9, false), (10, false), (13, false), (14, false)], [[5, 6, 7, 9, 10], [5, 7]]⟩
def K110_1 : C := .seq (.pl <| .st (.ext 11 0) <|
    .st (.act none (.px (some 5) (.mv (.c (.bool true))))) .done) (.ret)
@[simp] def W110_1 := @C.wpe _ _ K110_1.eq_1
def K110_2 : C := .pl <| .st (.ext 11 1) <|
    .st (.act none (.px (some 11) (.bin .add (.v 8) (.c (.int .i64 1))))) <|
    .st (.act none (.px (some 8) (.mv (.v 11)))) .done
@[simp] def W110_2 := @C.wpe _ _ K110_2.eq_1
def K110_3 : C := .pl <| .st (.ext 11 1) <|
    .st (.act none (.px (some 11) (.bin .add (.v 10) (.c (.int .i64 1))))) <|
    .st (.act none (.px (some 10) (.mv (.v 11)))) .done
@[simp] def W110_3 := @C.wpe _ _ K110_3.eq_1
def K110_4 : C := .seq (.pl <| .st (.ext 11 0) <|
    .st (.act none (.px (some 5) (.mv (.c (.bool false))))) .done) (.ret)
@[simp] def W110_4 := @C.wpe _ _ K110_4.eq_1
def K110_5 : C := .cond 11 (.v 34) K110_4 (.skip)
@[simp] def W110_5 := @C.wpe _ _ K110_5.eq_1
def K110_6 : C := .seq (.pl <| .st (.ext 11 24) <|
    .st (.act none (.ld (some 11) (.v 3) none)) <|
    .st (.act none (.px (some 12) (.mv (.v 1)))) <|
    .st (.act none (.px (some 13) (.mv (.v 6)))) <|
    .st (.act none (.px (some 14) (.ia 8 (.v 11) (.v 12)))) <|
    .st (.act none (.px (some 15) (.iaA 8 1 (.v 14) (.v 13)))) <|
    .st (.act none (.ld (some 16) (.v 15) none)) <|
    .st (.act none (.px (some 17) (.mv (.v 7)))) <|
    .st (.act none (.px (some 18) (.bin .shr (.v 16) (.v 17)))) <|
    .st (.act none (.px (some 19) (.bin .and (.v 18) (.c (.int .u64 1))))) <|
    .st (.act none (.px (some 20) (.bin .eql (.v 19) (.c (.int .u64 1))))) <|
    .st (.act none (.px (some 21) (.mv (.v 20)))) <|
    .st (.act (some (.v 21, true)) (.ld (some 22) (.v 3) none)) <|
    .st (.act (some (.v 21, true)) (.px (some 23) (.mv (.v 0)))) <|
    .st (.act (some (.v 21, true)) (.px (some 24) (.mv (.v 6)))) <|
    .st (.act (some (.v 21, true)) (.px (some 25) (.ia 8 (.v 22) (.v 23)))) <|
    .st (.act (some (.v 21, true)) (.px (some 26) (.iaA 8 1 (.v 25) (.v 24)))) <|
    .st (.act (some (.v 21, true)) (.ld (some 27) (.v 26) none)) <|
    .st (.act (some (.v 21, true)) (.ld (some 28) (.v 4) none)) <|
    .st (.act (some (.v 21, true)) (.px (some 29) (.mv (.v 7)))) <|
    .st (.act (some (.v 21, true)) (.px (some 30) (.ia 1 (.v 28) (.v 29)))) <|
    .st (.act (some (.v 21, true)) (.ld (some 31) (.v 30) none)) <|
    .st (.act (some (.v 21, true)) (.px (some 32) (.bin .and (.v 27) (.v 31)))) <|
    .st (.act (some (.v 21, true)) (.px (some 33) (.bin .eql (.v 32) (.c (.int .u64 0))))) <|
    .st (.act none (.px (some 34) (.pick (.v 21) (.v 33) (.c (.bool false))))) .done) K110_5
@[simp] def W110_6 := @C.wpe _ _ K110_6.eq_1
def K110_7 : C := .seq (.block 3 (.seq (.pl <| .st (.ext 11 1) <|
    .st (.act none (.px (some 11) (.mv (.v 10)))) <|
    .st (.act none (.px (some 7) (.mv (.v 11)))) .done) K110_6)) K110_3
@[simp] def W110_7 := @C.wpe _ _ K110_7.eq_1
def K110_8 : C := .seq (.cond 11 (.v 11) (.skip) (.exit 2)) K110_7
@[simp] def W110_8 := @C.wpe _ _ K110_8.eq_1
def K110_9 : C := .seq (.pl <| .st (.ext 11 1) <|
    .st (.act none (.px (some 11) (.bin .lss (.v 10) (.v 9)))) .done) K110_8
@[simp] def W110_9 := @C.wpe _ _ K110_9.eq_1
def K110_10 : C := .block 2 (.loop 11 [5, 7] K110_9)
@[simp] def W110_10 := @C.wpe _ _ K110_10.eq_1
def K110_11 : C := .seq (.pl <| .st (.ext 11 0) <|
    .st (.act none (.ld (some 9) (.v 2) none)) <|
    .st (.act none (.px (some 10) (.mv (.c (.int .i64 0))))) .done) K110_10
@[simp] def W110_11 := @C.wpe _ _ K110_11.eq_1
def K110_12 : C := .seq (.block 1 (.seq (.pl <| .st (.ext 11 1) <|
    .st (.act none (.px (some 11) (.mv (.v 8)))) <|
    .st (.act none (.px (some 6) (.mv (.v 11)))) .done) K110_11)) K110_2
@[simp] def W110_12 := @C.wpe _ _ K110_12.eq_1
def K110_13 : C := .seq (.cond 11 (.v 11) (.skip) (.exit 0)) K110_12
@[simp] def W110_13 := @C.wpe _ _ K110_13.eq_1
def K110_14 : C := .seq (.pl <| .st (.ext 11 1) <|
    .st (.act none (.px (some 11) (.bin .lss (.v 8) (.c (.int .i64 8))))) .done) K110_13
@[simp] def W110_14 := @C.wpe _ _ K110_14.eq_1
def K110_15 : C := .block 0 (.loop 11 [5, 6, 7, 9, 10] K110_14)
@[simp] def W110_15 := @C.wpe _ _ K110_15.eq_1
def K110_16 : C := .seq (.seq (.pl <| .st (.ext 11 0) <|
    .st (.act none (.px (some 8) (.mv (.c (.int .i64 0))))) .done) K110_15) K110_1
@[simp] def W110_16 := @C.wpe _ _ K110_16.eq_1
def B_impl_Automaton_simulation_1 : C := .seq (.pl <| .st (.ext 11 0) <|
    .st (.act none (.px (some 5) (.mv (.c (.bool false))))) .done) K110_16
@[simp] def WB_impl_Automaton_simulation_1 := @C.wpe _ _ B_impl_Automaton_simulation_1.eq_1
def R_impl_Automaton_simulation_1 : FIR := ⟨B_impl_Automaton_simulation_1, 11, [(5, none)]⟩
theorem IR_impl_Automaton_simulation_1 : cfun Try.prog H_impl_Automaton_simulation_1 Try.f110 = some R_impl_Automaton_simulation_1 := by kernel_rfl
theorem EN_impl_Automaton_simulation_1 {args : List Value} {h : Heap} {k : Value → Heap → Prop} (hargs : args.length = 5) (hw : B_impl_Automaton_simulation_1.wp Try.prog (retQ [(5, none)] k) (env0 args 11) h) : CallE Try.prog fn_impl_Automaton_simulation_1 args h k := enter Try.func110 rfl IR_impl_Automaton_simulation_1 hargs hw

def H_impl_Automaton_trim : Hint := ⟨[(0, false), (1, true), (2, true), (3, false), (4, false), (5, false), (6, true), (7, false), (9, false), (11, true), (23, false), (24, false), (64, false), (65, false), (66, false), (86, false), (87, false), (88, false)], [[0, 7, 8, 9, 12, 13, 14, 15, 16, 17], [0, 3, 4, 7, 8, 9, 10, 11, 15, 16, 17], [0, 1, 3, 4, 7, 8, 9, 10, 11, 12, 13, 14]]⟩
def K38_1 : Pl := .st (.act none (.pset none 2 0 3 (.v 19))) .done
@[simp] def W38_1 := @Pl.wpe _ _ K38_1.eq_1
def K38_2 : C := .seq (.pl <| .st (.ext 18 2) <|
    .st (.act none (.pget (some 18) none 6 0 (some 3))) <|
    .st (.act none (.ex (some 19) (.call fn_impl_Automaton_copyOf [.v 18]))) K38_1) (.ret)
@[simp] def W38_2 := @C.wpe _ _ K38_2.eq_1
def K38_3 : C := .pl <| .st (.ext 18 1) <|
    .st (.act none (.px (some 18) (.bin .add (.v 17) (.c (.int .i64 1))))) <|
    .st (.act none (.px (some 17) (.mv (.v 18)))) .done
@[simp] def W38_3 := @C.wpe _ _ K38_3.eq_1
def K38_4 : Pl := .st (.act none (.als 37 none 6)) <|
    .st (.act none (.pset (some 37) 6 2 1 (.v 36))) .done
@[simp] def W38_4 := @Pl.wpe _ _ K38_4.eq_1
def K38_5 : C := .pl <| .st (.ext 18 20) <|
    .st (.act none (.als 18 none 6)) <|
    .st (.act none (.pget (some 19) (some 18) 6 2 none)) <|
    .st (.act none (.px (some 20) (.mv (.v 5)))) <|
    .st (.act none (.als 21 none 9)) <|
    .st (.act none (.pget (some 22) (some 21) 9 0 none)) <|
    .st (.act none (.px (some 23) (.ia 1 (.v 20) (.v 22)))) <|
    .st (.act none (.ld (some 24) (.v 23) none)) <|
    .st (.act none (.als 25 none 9)) <|
    .st (.act none (.pget (some 26) (some 25) 9 1 none)) <|
    .st (.act none (.als 27 none 9)) <|
    .st (.act none (.pget (some 28) (some 27) 9 2 none)) <|
    .st (.act none (.px (some 29) (.mv (.v 5)))) <|
    .st (.act none (.als 30 none 9)) <|
    .st (.act none (.pget (some 31) (some 30) 9 3 none)) <|
    .st (.act none (.px (some 32) (.ia 1 (.v 29) (.v 31)))) <|
    .st (.act none (.ld (some 33) (.v 32) none)) <|
    .st (.act none (.px (some 34) (.build [.int .i64 0, .int .i64 0, .int .i64 0, .int .i64 0] [(0, 1, .v 24), (1, 1, .v 26), (2, 1, .v 28), (3, 1, .v 33)]))) <|
    .st (.act none (.psl 35 [.int .i64 0, .int .i64 0, .int .i64 0, .int .i64 0] [(0, 4, .v 34)])) <|
    .st (.act none (.ex (some 36) (.app 32 4 [.int .i64 0, .int .i64 0, .int .i64 0, .int .i64 0] (.o (.v 19)) (.p 1 35)))) K38_4
@[simp] def W38_5 := @C.wpe _ _ K38_5.eq_1
def K38_6 : C := .cond 18 (.v 31) K38_5 (.skip)
@[simp] def W38_6 := @C.wpe _ _ K38_6.eq_1
def K38_7 : C := .seq (.pl <| .st (.ext 18 14) <|
    .st (.act none (.px (some 18) (.mv (.v 5)))) <|
    .st (.act none (.als 19 none 9)) <|
    .st (.act none (.pget (some 20) (some 19) 9 0 none)) <|
    .st (.act none (.px (some 21) (.ia 1 (.v 18) (.v 20)))) <|
    .st (.act none (.ld (some 22) (.v 21) none)) <|
    .st (.act none (.px (some 23) (.bin .geq (.v 22) (.c (.int .i64 0))))) <|
    .st (.act none (.px (some 24) (.mv (.v 23)))) <|
    .st (.act (some (.v 24, true)) (.px (some 25) (.mv (.v 5)))) <|
    .st (.act (some (.v 24, true)) (.als 26 none 9)) <|
    .st (.act (some (.v 24, true)) (.pget (some 27) (some 26) 9 3 none)) <|
    .st (.act (some (.v 24, true)) (.px (some 28) (.ia 1 (.v 25) (.v 27)))) <|
    .st (.act (some (.v 24, true)) (.ld (some 29) (.v 28) none)) <|
    .st (.act (some (.v 24, true)) (.px (some 30) (.bin .geq (.v 29) (.c (.int .i64 0))))) <|
    .st (.act none (.px (some 31) (.pick (.v 24) (.v 30) (.c (.bool false))))) .done) K38_6
@[simp] def W38_7 := @C.wpe _ _ K38_7.eq_1
def K38_8 : C := .seq (.block 5 (.seq (.pl <| .st (.ext 18 2) <|
    .st (.act none (.px (some 18) (.ia 4 (.v 15) (.v 17)))) <|
    .st (.act none (.ld (some 19) (.v 18) (some 4))) <|
    .st (.act none (.pnew 9 (.c (.agg #[.int .i64 0, .int .i64 0, .int .i64 0, .int .i64 0])) [])) <|
    .st (.act none (.pset none 9 0 4 (.v 19))) .done) K38_7)) K38_3
@[simp] def W38_8 := @C.wpe _ _ K38_8.eq_1
def K38_9 : C := .seq (.cond 18 (.v 18) (.skip) (.exit 4)) K38_8
@[simp] def W38_9 := @C.wpe _ _ K38_9.eq_1
def K38_10 : C := .seq (.pl <| .st (.ext 18 1) <|
    .st (.act none (.px (some 18) (.bin .lss (.v 17) (.v 16)))) .done) K38_9
@[simp] def W38_10 := @C.wpe _ _ K38_10.eq_1
def K38_11 : C := .block 4 (.loop 18 [0, 1, 3, 4, 7, 8, 9, 10, 11, 12, 13, 14] K38_10)
@[simp] def W38_11 := @C.wpe _ _ K38_11.eq_1
def K38_12 : C := .seq (.seq (.pl <| .st (.ext 18 1) <|
    .st (.act none (.als 18 none 1)) <|
    .st (.act none (.pget (some 15) (some 18) 1 2 none)) <|
    .st (.act none (.px (some 16) (.lenV (.v 15)))) <|
    .st (.act none (.px (some 17) (.mv (.c (.int .i64 0))))) .done) K38_11) K38_2
@[simp] def W38_12 := @C.wpe _ _ K38_12.eq_1
def K38_13 : C := .pl <| .st (.ext 18 1) <|
    .st (.act none (.px (some 18) (.bin .add (.v 14) (.c (.int .i64 1))))) <|
    .st (.act none (.px (some 14) (.mv (.v 18)))) .done
@[simp] def W38_13 := @C.wpe _ _ K38_13.eq_1
def K38_14 : Pl := .st (.act none (.als 26 none 6)) <|
    .st (.act none (.pset (some 26) 6 0 1 (.v 25))) .done
@[simp] def W38_14 := @Pl.wpe _ _ K38_14.eq_1
def K38_15 : C := .pl <| .st (.ext 18 9) <|
    .st (.act none (.als 18 none 6)) <|
    .st (.act none (.pget (some 19) (some 18) 6 0 none)) <|
    .st (.act none (.px (some 20) (.mv (.v 5)))) <|
    .st (.act none (.px (some 21) (.mv (.v 8)))) <|
    .st (.act none (.px (some 22) (.ia 1 (.v 20) (.v 21)))) <|
    .st (.act none (.ld (some 23) (.v 22) none)) <|
    .st (.act none (.psl 24 [.int .i64 0] [(0, 1, .v 23)])) <|
    .st (.act none (.ex (some 25) (.app 8 1 [.int .i64 0] (.o (.v 19)) (.p 1 24)))) K38_14
@[simp] def W38_15 := @C.wpe _ _ K38_15.eq_1
def K38_16 : C := .cond 18 (.v 22) K38_15 (.skip)
@[simp] def W38_16 := @C.wpe _ _ K38_16.eq_1
def K38_17 : C := .seq (.pl <| .st (.ext 18 5) <|
    .st (.act none (.px (some 18) (.mv (.v 5)))) <|
    .st (.act none (.px (some 19) (.mv (.v 8)))) <|
    .st (.act none (.px (some 20) (.ia 1 (.v 18) (.v 19)))) <|
    .st (.act none (.ld (some 21) (.v 20) none)) <|
    .st (.act none (.px (some 22) (.bin .geq (.v 21) (.c (.int .i64 0))))) .done) K38_16
@[simp] def W38_17 := @C.wpe _ _ K38_17.eq_1
def K38_18 : C := .seq (.block 3 (.seq (.pl <| .st (.ext 18 2) <|
    .st (.act none (.px (some 18) (.ia 1 (.v 12) (.v 14)))) <|
    .st (.act none (.ld (some 19) (.v 18) none)) <|
    .st (.act none (.px (some 8) (.mv (.v 19)))) .done) K38_17)) K38_13
@[simp] def W38_18 := @C.wpe _ _ K38_18.eq_1
def K38_19 : C := .seq (.cond 18 (.v 18) (.skip) (.exit 2)) K38_18
@[simp] def W38_19 := @C.wpe _ _ K38_19.eq_1
def K38_20 : C := .seq (.pl <| .st (.ext 18 1) <|
    .st (.act none (.px (some 18) (.bin .lss (.v 14) (.v 13)))) .done) K38_19
@[simp] def W38_20 := @C.wpe _ _ K38_20.eq_1
def K38_21 : C := .block 2 (.loop 18 [0, 3, 4, 7, 8, 9, 10, 11, 15, 16, 17] K38_20)
@[simp] def W38_21 := @C.wpe _ _ K38_21.eq_1
def K38_22 : C := .seq (.seq (.pl <| .st (.ext 18 1) <|
    .st (.act none (.als 18 none 1)) <|
    .st (.act none (.pget (some 12) (some 18) 1 0 none)) <|
    .st (.act none (.px (some 13) (.lenV (.v 12)))) <|
    .st (.act none (.px (some 14) (.mv (.c (.int .i64 0))))) .done) K38_21) K38_12
@[simp] def W38_22 := @C.wpe _ _ K38_22.eq_1
def K38_23 : Pl := .st (.act none (.px (some 19) (.build [.slice none 0 0, .slice none 0 0, .slice none 0 0] [(1, 1, .v 18)]))) <|
    .st (.act none (.pset none 2 0 3 (.v 19))) .done
@[simp] def W38_23 := @Pl.wpe _ _ K38_23.eq_1
def K38_24 : C := .seq (.pl <| .st (.ext 18 2) <|
    .st (.act none (.ex (some 18) (.mks 1 1 [.bool false] (.c (.int .i64 1)) (.c (.int .i64 1))))) K38_23) (.ret)
@[simp] def W38_24 := @C.wpe _ _ K38_24.eq_1
def K38_25 : C := .cond 18 (.v 21) K38_24 (.skip)
@[simp] def W38_25 := @C.wpe _ _ K38_25.eq_1
def K38_26 : C := .seq (.seq (.pl <| .st (.ext 18 4) <|
    .st (.act none (.als 18 none 6)) <|
    .st (.act none (.pget (some 19) (some 18) 6 1 none)) <|
    .st (.act none (.px (some 20) (.lenV (.v 19)))) <|
    .st (.act none (.px (some 21) (.bin .eql (.v 20) (.c (.int .i64 0))))) .done) K38_25) K38_22
@[simp] def W38_26 := @C.wpe _ _ K38_26.eq_1
def K38_27 : C := .pl <| .st (.ext 18 1) <|
    .st (.act none (.px (some 18) (.bin .add (.v 11) (.c (.int .i64 1))))) <|
    .st (.act none (.px (some 11) (.mv (.v 18)))) .done
@[simp] def W38_27 := @C.wpe _ _ K38_27.eq_1
def K38_28 : Pl := .st (.act none (.als 27 none 6)) <|
    .st (.act none (.pset (some 27) 6 1 1 (.v 26))) .done
@[simp] def W38_28 := @Pl.wpe _ _ K38_28.eq_1
def K38_29 : C := .pl <| .st (.ext 18 10) <|
    .st (.act none (.als 18 none 6)) <|
    .st (.act none (.pget (some 19) (some 18) 6 1 none)) <|
    .st (.act none (.als 20 none 1)) <|
    .st (.act none (.pget (some 21) (some 20) 1 1 none)) <|
    .st (.act none (.px (some 22) (.mv (.v 7)))) <|
    .st (.act none (.px (some 23) (.ia 1 (.v 21) (.v 22)))) <|
    .st (.act none (.ld (some 24) (.v 23) none)) <|
    .st (.act none (.psl 25 [.bool false] [(0, 1, .v 24)])) <|
    .st (.act none (.ex (some 26) (.app 1 1 [.bool false] (.o (.v 19)) (.p 1 25)))) K38_28
@[simp] def W38_29 := @C.wpe _ _ K38_29.eq_1
def K38_30 : C := .seq (.pl <| .st (.ext 18 6) <|
    .st (.act none (.px (some 18) (.mv (.v 5)))) <|
    .st (.act none (.px (some 19) (.mv (.v 7)))) <|
    .st (.act none (.als 20 none 6)) <|
    .st (.act none (.pget (some 21) (some 20) 6 1 none)) <|
    .st (.act none (.px (some 22) (.lenV (.v 21)))) <|
    .st (.act none (.px (some 23) (.ia 1 (.v 18) (.v 19)))) <|
    .st (.act none (.ex none (.store 1 (.v 23) (.v 22)))) .done) K38_29
@[simp] def W38_30 := @C.wpe _ _ K38_30.eq_1
def K38_31 : C := .cond 18 (.v 27) K38_30 (.skip)
@[simp] def W38_31 := @C.wpe _ _ K38_31.eq_1
def K38_32 : C := .seq (.pl <| .st (.ext 18 10) <|
    .st (.act none (.px (some 18) (.mv (.v 3)))) <|
    .st (.act none (.px (some 19) (.mv (.v 7)))) <|
    .st (.act none (.px (some 20) (.ia 1 (.v 18) (.v 19)))) <|
    .st (.act none (.ld (some 21) (.v 20) none)) <|
    .st (.act none (.px (some 22) (.mv (.v 21)))) <|
    .st (.act (some (.v 22, true)) (.px (some 23) (.mv (.v 4)))) <|
    .st (.act (some (.v 22, true)) (.px (some 24) (.mv (.v 7)))) <|
    .st (.act (some (.v 22, true)) (.px (some 25) (.ia 1 (.v 23) (.v 24)))) <|
    .st (.act (some (.v 22, true)) (.ld (some 26) (.v 25) none)) <|
    .st (.act none (.px (some 27) (.pick (.v 22) (.v 26) (.c (.bool false))))) .done) K38_31
@[simp] def W38_32 := @C.wpe _ _ K38_32.eq_1
def K38_33 : C := .seq (.pl <| .st (.ext 18 3) <|
    .st (.act none (.px (some 18) (.mv (.v 5)))) <|
    .st (.act none (.px (some 19) (.mv (.v 7)))) <|
    .st (.act none (.px (some 20) (.ia 1 (.v 18) (.v 19)))) <|
    .st (.act none (.ex none (.store 1 (.v 20) (.c (.int .i64 (-1)))))) .done) K38_32
@[simp] def W38_33 := @C.wpe _ _ K38_33.eq_1
def K38_34 : C := .seq (.block 1 (.seq (.pl <| .st (.ext 18 1) <|
    .st (.act none (.px (some 18) (.mv (.v 11)))) <|
    .st (.act none (.px (some 7) (.mv (.v 18)))) .done) K38_33)) K38_27
@[simp] def W38_34 := @C.wpe _ _ K38_34.eq_1
def K38_35 : C := .seq (.cond 18 (.v 18) (.skip) (.exit 0)) K38_34
@[simp] def W38_35 := @C.wpe _ _ K38_35.eq_1
def K38_36 : C := .seq (.pl <| .st (.ext 18 1) <|
    .st (.act none (.px (some 18) (.bin .lss (.v 11) (.v 10)))) .done) K38_35
@[simp] def W38_36 := @C.wpe _ _ K38_36.eq_1
def K38_37 : C := .block 0 (.loop 18 [0, 7, 8, 9, 12, 13, 14, 15, 16, 17] K38_36)
@[simp] def W38_37 := @C.wpe _ _ K38_37.eq_1
def K38_38 : C := .seq (.seq (.pl <| .st (.ext 18 1) <|
    .st (.act none (.px (some 18) (.mv (.v 3)))) <|
    .st (.act none (.px (some 10) (.lenV (.v 18)))) <|
    .st (.act none (.px (some 11) (.mv (.c (.int .i64 0))))) .done) K38_37) K38_26
@[simp] def W38_38 := @C.wpe _ _ K38_38.eq_1
def K38_39 : C := .seq (.pl <| .st (.ext 18 0) <|
    .st (.act none (.pnew 6 (.c (.agg #[.slice none 0 0, .slice none 0 0, .slice none 0 0])) [])) .done) K38_38
@[simp] def W38_39 := @C.wpe _ _ K38_39.eq_1
def K38_40 : Pl := .st (.act none (.px (some 5) (.mv (.v 20)))) .done
@[simp] def W38_40 := @Pl.wpe _ _ K38_40.eq_1
def K38_41 : C := .seq (.pl <| .st (.ext 18 3) <|
    .st (.act none (.px (some 18) (.mv (.v 3)))) <|
    .st (.act none (.px (some 19) (.lenV (.v 18)))) <|
    .st (.act none (.ex (some 20) (.mks 8 1 [.int .i64 0] (.v 19) (.v 19)))) K38_40) K38_39
@[simp] def W38_41 := @C.wpe _ _ K38_41.eq_1
def K38_42 : Pl := .st (.act none (.px (some 3) (.mv (.v 22)))) <|
    .st (.act none (.px (some 4) (.mv (.v 24)))) .done
@[simp] def W38_42 := @Pl.wpe _ _ K38_42.eq_1
def K38_43 : Pl := .st (.act none (.ex (some 24) (.call fn_impl_Automaton_live [.v 23]))) K38_42
@[simp] def W38_43 := @Pl.wpe _ _ K38_43.eq_1
def K38_44 : Pl := .st (.act none (.ex (some 22) (.call fn_impl_reachable [.v 19, .v 21]))) K38_43
@[simp] def W38_44 := @Pl.wpe _ _ K38_44.eq_1
def K38_45 : C := .seq (.pl <| .st (.ext 18 7) <|
    .st (.act none (.pget (some 18) none 1 0 (some 3))) <|
    .st (.act none (.als 20 none 1)) <|
    .st (.act none (.pget (some 21) (some 20) 1 0 none)) <|
    .st (.act none (.pget (some 23) none 1 0 (some 3))) <|
    .st (.act none (.ex (some 19) (.call fn_impl_Automaton_next [.v 18]))) K38_44) K38_41
@[simp] def W38_45 := @C.wpe _ _ K38_45.eq_1
def B_impl_Automaton_trim : C := .seq (.pl <| .st (.ext 18 0) <|
    .st (.act none (.pnew 1 (.v 0) [])) <|
    .st (.act none (.pnew 2 (.c (.agg #[.slice none 0 0, .slice none 0 0, .slice none 0 0])) [])) .done) K38_45
@[simp] def WB_impl_Automaton_trim := @C.wpe _ _ B_impl_Automaton_trim.eq_1
def R_impl_Automaton_trim : FIR := ⟨B_impl_Automaton_trim, 18, [(2, some (some 3))]⟩
theorem IR_impl_Automaton_trim : cfun Try.prog H_impl_Automaton_trim Try.f38 = some R_impl_Automaton_trim := by kernel_rfl
theorem EN_impl_Automaton_trim {args : List Value} {h : Heap} {k : Value → Heap → Prop} (hargs : args.length = 1) (hw : B_impl_Automaton_trim.wp Try.prog (retQ [(2, some (some 3))] k) (env0 args 18) h) : CallE Try.prog fn_impl_Automaton_trim args h k := enter Try.func38 rfl IR_impl_Automaton_trim hargs hw

def H_impl_Automaton_values : Hint := ⟨[(0, false), (1, false), (2, true), (3, false), (4, false), (5, false), (6, false), (7, false), (27, false)], [[0, 1, 4, 7, 8]]⟩
def K95_1 : Pl := .st (.act none (.px (some 4) (.mv (.v 10)))) .done
@[simp] def W95_1 := @Pl.wpe _ _ K95_1.eq_1
def K95_2 : C := .seq (.pl <| .st (.ext 9 2) <|
    .st (.act none (.px (some 9) (.mv (.v 5)))) <|
    .st (.act none (.ex (some 10) (.call fn_slices_Clip_S_int_int [.v 9]))) K95_1) (.ret)
@[simp] def W95_2 := @C.wpe _ _ K95_2.eq_1
def K95_3 : C := .pl <| .st (.ext 9 2) <|
    .st (.act none (.ld (some 9) (.v 6) none)) <|
    .st (.act none (.px (some 10) (.bin .add (.v 9) (.c (.int .i64 1))))) <|
    .st (.act none (.ex none (.store 1 (.v 6) (.v 10)))) .done
@[simp] def W95_3 := @C.wpe _ _ K95_3.eq_1
def K95_4 : Pl := .st (.act none (.ex none (.store 1 (.v 6) (.v 8)))) .done
@[simp] def W95_4 := @Pl.wpe _ _ K95_4.eq_1
def K95_5 : C := .pl <| .st (.ext 9 0) <|
    .st (.act none (.ex (some 6) (.alloc (.c (.int .i64 0))))) K95_4
@[simp] def W95_5 := @C.wpe _ _ K95_5.eq_1
def K95_6 : C := .seq (.seq (.pl <| .st (.ext 9 0) <|
    .st (.act none (.ld (some 8) (.v 6) none)) .done) K95_5) K95_3
@[simp] def W95_6 := @C.wpe _ _ K95_6.eq_1
def K95_7 : Pl := .st (.act none (.px (some 5) (.mv (.v 17)))) .done
@[simp] def W95_7 := @Pl.wpe _ _ K95_7.eq_1
def K95_8 : C := .pl <| .st (.ext 9 9) <|
    .st (.act none (.px (some 9) (.mv (.v 5)))) <|
    .st (.act none (.als 10 none 2)) <|
    .st (.act none (.pget (some 11) (some 10) 2 2 none)) <|
    .st (.act none (.px (some 12) (.mv (.v 7)))) <|
    .st (.act none (.px (some 13) (.ia 4 (.v 11) (.v 12)))) <|
    .st (.act none (.px (some 14) (.fa 2 (.v 13)))) <|
    .st (.act none (.ld (some 15) (.v 14) none)) <|
    .st (.act none (.psl 16 [.int .i64 0] [(0, 1, .v 15)])) <|
    .st (.act none (.ex (some 17) (.app 8 1 [.int .i64 0] (.o (.v 9)) (.p 1 16)))) K95_7
@[simp] def W95_8 := @C.wpe _ _ K95_8.eq_1
def K95_9 : Pl := .st (.act none (.px (some 7) (.mv (.v 12)))) .done
@[simp] def W95_9 := @Pl.wpe _ _ K95_9.eq_1
def K95_10 : C := .seq (.block 1 (.seq (.pl <| .st (.ext 9 4) <|
    .st (.act none (.als 9 none 2)) <|
    .st (.act none (.pget (some 10) (some 9) 2 2 none)) <|
    .st (.act none (.px (some 11) (.mkf (.func fn_impl_Automaton_values_1) [] [.v 3, .v 6]))) <|
    .st (.act none (.ex (some 12) (.call fn_slices_IndexFunc_S_impl_Transition_impl_Transition [.v 10, .v 11]))) K95_9) K95_8)) K95_6
@[simp] def W95_10 := @C.wpe _ _ K95_10.eq_1
def K95_11 : C := .cond 9 (.v 12) (.skip) (.exit 0)
@[simp] def W95_11 := @C.wpe _ _ K95_11.eq_1
def K95_12 : C := .seq (.seq (.pl <| .st (.ext 9 4) <|
    .st (.act none (.ld (some 9) (.v 6) none)) <|
    .st (.act none (.ld (some 10) (.v 3) none)) <|
    .st (.act none (.px (some 11) (.lenV (.v 10)))) <|
    .st (.act none (.px (some 12) (.bin .lss (.v 9) (.v 11)))) .done) K95_11) K95_10
@[simp] def W95_12 := @C.wpe _ _ K95_12.eq_1
def K95_13 : C := .block 0 (.loop 9 [0, 1, 4, 7, 8] K95_12)
@[simp] def W95_13 := @C.wpe _ _ K95_13.eq_1
def K95_14 : Pl := .st (.act none (.ex none (.store 1 (.v 6) (.c (.int .i64 1))))) .done
@[simp] def W95_14 := @Pl.wpe _ _ K95_14.eq_1
def K95_15 : C := .seq (.seq (.pl <| .st (.ext 9 0) <|
    .st (.act none (.ex (some 6) (.alloc (.c (.int .i64 0))))) K95_14) K95_13) K95_2
@[simp] def W95_15 := @C.wpe _ _ K95_15.eq_1
def K95_16 : C := .seq (.pl <| .st (.ext 9 0) <|
    .st (.act none (.px (some 5) (.mv (.c (.slice none 0 0))))) .done) K95_15
@[simp] def W95_16 := @C.wpe _ _ K95_16.eq_1
def K95_17 : Pl := .st (.act none (.px (some 4) (.mv (.c (.slice none 0 0))))) .done
@[simp] def W95_17 := @Pl.wpe _ _ K95_17.eq_1
def B_impl_Automaton_values : C := .seq (.pl <| .st (.ext 9 0) <|
    .st (.act none (.pnew 2 (.v 0) [])) <|
    .st (.act none (.ex (some 3) (.alloc (.v 1)))) K95_17) K95_16
@[simp] def WB_impl_Automaton_values := @C.wpe _ _ B_impl_Automaton_values.eq_1
def R_impl_Automaton_values : FIR := ⟨B_impl_Automaton_values, 9, [(4, none)]⟩
theorem IR_impl_Automaton_values : cfun Try.prog H_impl_Automaton_values Try.f95 = some R_impl_Automaton_values := by kernel_rfl
theorem EN_impl_Automaton_values {args : List Value} {h : Heap} {k : Value → Heap → Prop} (hargs : args.length = 2) (hw : B_impl_Automaton_values.wp Try.prog (retQ [(4, none)] k) (env0 args 9) h) : CallE Try.prog fn_impl_Automaton_values args h k := enter Try.func95 rfl IR_impl_Automaton_values hargs hw

def H_impl_Automaton_values_1 : Hint := ⟨[(0, false), (1, false), (2, false), (3, true), (4, false)], []⟩
def K120_1 : C := .seq (.pl <| .st (.ext 5 17) <|
    .st (.act none (.als 5 none 3)) <|
    .st (.act none (.pget (some 6) (some 5) 3 0 none)) <|
    .st (.act none (.ld (some 7) (.v 1) none)) <|
    .st (.act none (.ld (some 8) (.v 2) none)) <|
    .st (.act none (.px (some 9) (.bin .sub (.v 8) (.c (.int .i64 1))))) <|
    .st (.act none (.px (some 10) (.ia 1 (.v 7) (.v 9)))) <|
    .st (.act none (.ld (some 11) (.v 10) none)) <|
    .st (.act none (.px (some 12) (.bin .eql (.v 6) (.v 11)))) <|
    .st (.act none (.px (some 13) (.mv (.v 12)))) <|
    .st (.act (some (.v 13, true)) (.als 14 none 3)) <|
    .st (.act (some (.v 13, true)) (.pget (some 15) (some 14) 3 3 none)) <|
    .st (.act (some (.v 13, true)) (.ld (some 16) (.v 1) none)) <|
    .st (.act (some (.v 13, true)) (.ld (some 17) (.v 2) none)) <|
    .st (.act (some (.v 13, true)) (.px (some 18) (.ia 1 (.v 16) (.v 17)))) <|
    .st (.act (some (.v 13, true)) (.ld (some 19) (.v 18) none)) <|
    .st (.act (some (.v 13, true)) (.px (some 20) (.bin .eql (.v 15) (.v 19)))) <|
    .st (.act none (.px (some 21) (.pick (.v 13) (.v 20) (.c (.bool false))))) <|
    .st (.act none (.px (some 4) (.mv (.v 21)))) .done) (.ret)
@[simp] def W120_1 := @C.wpe _ _ K120_1.eq_1
def B_impl_Automaton_values_1 : C := .seq (.pl <| .st (.ext 5 0) <|
    .st (.act none (.pnew 3 (.v 0) [])) <|
    .st (.act none (.px (some 4) (.mv (.c (.bool false))))) .done) K120_1
@[simp] def WB_impl_Automaton_values_1 := @C.wpe _ _ B_impl_Automaton_values_1.eq_1
def R_impl_Automaton_values_1 : FIR := ⟨B_impl_Automaton_values_1, 5, [(4, none)]⟩
theorem IR_impl_Automaton_values_1 : cfun Try.prog H_impl_Automaton_values_1 Try.f120 = some R_impl_Automaton_values_1 := by kernel_rfl
theorem EN_impl_Automaton_values_1 {args : List Value} {h : Heap} {k : Value → Heap → Prop} (hargs : args.length = 3) (hw : B_impl_Automaton_values_1.wp Try.prog (retQ [(4, none)] k) (env0 args 5) h) : CallE Try.prog fn_impl_Automaton_values_1 args h k := enter Try.func120 rfl IR_impl_Automaton_values_1 hargs hw

def H_impl_ExtendWord : Hint := ⟨[(0, false), (1, false), (2, true), (4, true), (5, false), (6, false), (7, false), (8, true), (9, true)], []⟩
def K26_1 : C := .seq (.pl <| .st (.ext 9 1) <|
    .st (.act none (.pget (some 9) none 8 0 (some 2))) <|
    .st (.act none (.pset none 3 0 2 (.v 9))) <|
    .st (.act none (.px (some 4) (.mv (.c (.bool true))))) .done) (.ret)
@[simp] def W26_1 := @C.wpe _ _ K26_1.eq_1
def K26_2 : C := .seq (.pl <| .st (.ext 9 1) <|
    .st (.act none (.px (some 9) (.build [.slice none 0 0, .slice none 0 0] []))) <|
    .st (.act none (.pset none 3 0 2 (.v 9))) <|
    .st (.act none (.px (some 4) (.mv (.c (.bool false))))) .done) (.ret)
@[simp] def W26_2 := @C.wpe _ _ K26_2.eq_1
def K26_3 : C := .cond 9 (.v 15) K26_2 (.skip)
@[simp] def W26_3 := @C.wpe _ _ K26_3.eq_1
def K26_4 : Pl := .st (.act (some (.v 11, false)) (.px (some 14) (.un .not (.v 13)))) <|
    .st (.act none (.px (some 15) (.pick (.v 11) (.c (.bool true)) (.v 14)))) .done
@[simp] def W26_4 := @Pl.wpe _ _ K26_4.eq_1
def K26_5 : C := .seq (.seq (.pl <| .st (.ext 9 7) <|
    .st (.act none (.px (some 9) (.mv (.v 6)))) <|
    .st (.act none (.px (some 10) (.un .not (.v 9)))) <|
    .st (.act none (.px (some 11) (.mv (.v 10)))) <|
    .st (.act (some (.v 11, false)) (.pget (some 12) none 8 0 (some 2))) <|
    .st (.act (some (.v 11, false)) (.ex (some 13) (.call fn_impl_LassoValid [.v 12]))) K26_4) K26_3) K26_1
@[simp] def W26_5 := @C.wpe _ _ K26_5.eq_1
def K26_6 : Pl := .st (.act none (.px (some 17) (.build [.slice none 0 0, .slice none 0 0] [(0, 1, .v 14), (1, 1, .v 16)]))) <|
    .st (.act none (.pset none 8 0 2 (.v 17))) .done
@[simp] def W26_6 := @Pl.wpe _ _ K26_6.eq_1
def K26_7 : Pl := .st (.act none (.ex (some 14) (.call fn_slices_Clip_S_int_int [.v 13]))) K26_6
@[simp] def W26_7 := @Pl.wpe _ _ K26_7.eq_1
def K26_8 : Pl := .st (.act none (.ex (some 13) (.call fn_slices_Concat_S_int_int [.v 12]))) K26_7
@[simp] def W26_8 := @Pl.wpe _ _ K26_8.eq_1
def K26_9 : C := .seq (.pl <| .st (.ext 9 9) <|
    .st (.act none (.px (some 9) (.mv (.v 1)))) <|
    .st (.act none (.als 10 none 7)) <|
    .st (.act none (.pget (some 11) (some 10) 7 0 none)) <|
    .st (.act none (.als 15 none 7)) <|
    .st (.act none (.pget (some 16) (some 15) 7 1 none)) <|
    .st (.act none (.pnew 8 (.c (.agg #[.slice none 0 0, .slice none 0 0])) [])) <|
    .st (.act none (.ex (some 12) (.bls 1 2 [.slice none 0 0] [(0, 1, .v 9), (1, 1, .v 11)]))) K26_8) K26_5
@[simp] def W26_9 := @C.wpe _ _ K26_9.eq_1
def K26_10 : Pl := .st (.act none (.px (some 16) (.mv (.v 15)))) <|
    .st (.act none (.px (some 17) (.extract 0 (.v 16)))) <|
    .st (.act none (.px (some 18) (.extract 1 (.v 16)))) <|
    .st (.act none (.pnew 7 (.c (.agg #[.slice none 0 0, .slice none 0 0])) [])) <|
    .st (.act none (.pset none 7 0 2 (.v 17))) <|
    .st (.act none (.px (some 6) (.mv (.v 18)))) .done
@[simp] def W26_10 := @Pl.wpe _ _ K26_10.eq_1
def K26_11 : C := .seq (.pl <| .st (.ext 9 10) <|
    .st (.act none (.px (some 9) (.mv (.v 5)))) <|
    .st (.act none (.als 10 none 2)) <|
    .st (.act none (.pget (some 11) (some 10) 2 1 none)) <|
    .st (.act none (.als 12 none 2)) <|
    .st (.act none (.pget (some 13) (some 12) 2 2 none)) <|
    .st (.act none (.px (some 14) (.build [.slice none 0 0, .slice none 0 0, .slice none 0 0] [(0, 1, .v 9), (1, 1, .v 11), (2, 1, .v 13)]))) <|
    .st (.act none (.ex (some 15) (.call fn_impl_FindWord [.v 14]))) K26_10) K26_9
@[simp] def W26_11 := @C.wpe _ _ K26_11.eq_1
def K26_12 : C := .seq (.pl <| .st (.ext 9 1) <|
    .st (.act none (.px (some 9) (.build [.slice none 0 0, .slice none 0 0] []))) <|
    .st (.act none (.pset none 3 0 2 (.v 9))) <|
    .st (.act none (.px (some 4) (.mv (.c (.bool false))))) .done) (.ret)
@[simp] def W26_12 := @C.wpe _ _ K26_12.eq_1
def K26_13 : C := .cond 9 (.v 15) K26_12 (.skip)
@[simp] def W26_13 := @C.wpe _ _ K26_13.eq_1
def K26_14 : C := .seq (.seq (.pl <| .st (.ext 9 7) <|
    .st (.act none (.px (some 9) (.mv (.v 6)))) <|
    .st (.act none (.px (some 10) (.un .not (.v 9)))) <|
    .st (.act none (.px (some 11) (.mv (.v 10)))) <|
    .st (.act (some (.v 11, false)) (.px (some 12) (.mv (.v 5)))) <|
    .st (.act (some (.v 11, false)) (.px (some 13) (.lenV (.v 12)))) <|
    .st (.act (some (.v 11, false)) (.px (some 14) (.bin .eql (.v 13) (.c (.int .i64 0))))) <|
    .st (.act none (.px (some 15) (.pick (.v 11) (.c (.bool true)) (.v 14)))) .done) K26_13) K26_11
@[simp] def W26_14 := @C.wpe _ _ K26_14.eq_1
def K26_15 : Pl := .st (.act none (.px (some 12) (.mv (.v 11)))) <|
    .st (.act none (.px (some 13) (.extract 0 (.v 12)))) <|
    .st (.act none (.px (some 14) (.extract 1 (.v 12)))) <|
    .st (.act none (.px (some 5) (.mv (.v 13)))) <|
    .st (.act none (.px (some 6) (.mv (.v 14)))) .done
@[simp] def W26_15 := @Pl.wpe _ _ K26_15.eq_1
def K26_16 : C := .seq (.pl <| .st (.ext 9 6) <|
    .st (.act none (.pget (some 9) none 2 0 (some 3))) <|
    .st (.act none (.px (some 10) (.mv (.v 1)))) <|
    .st (.act none (.ex (some 11) (.call fn_impl_PrefixStates [.v 9, .v 10]))) K26_15) K26_14
@[simp] def W26_16 := @C.wpe _ _ K26_16.eq_1
def B_impl_ExtendWord : C := .seq (.pl <| .st (.ext 9 0) <|
    .st (.act none (.pnew 2 (.v 0) [])) <|
    .st (.act none (.pnew 3 (.c (.agg #[.slice none 0 0, .slice none 0 0])) [])) <|
    .st (.act none (.px (some 4) (.mv (.c (.bool false))))) .done) K26_16
@[simp] def WB_impl_ExtendWord := @C.wpe _ _ B_impl_ExtendWord.eq_1
def R_impl_ExtendWord : FIR := ⟨B_impl_ExtendWord, 9, [(3, some (some 2)), (4, none)]⟩
theorem IR_impl_ExtendWord : cfun Try.prog H_impl_ExtendWord Try.f26 = some R_impl_ExtendWord := by kernel_rfl
theorem EN_impl_ExtendWord {args : List Value} {h : Heap} {k : Value → Heap → Prop} (hargs : args.length = 2) (hw : B_impl_ExtendWord.wp Try.prog (retQ [(3, some (some 2)), (4, none)] k) (env0 args 9) h) : CallE Try.prog fn_impl_ExtendWord args h k := enter Try.func26 rfl IR_impl_ExtendWord hargs hw

def H_impl_FindWord : Hint := ⟨[(0, false), (1, false), (2, true), (3, false), (4, false), (5, false), (6, false)], []⟩
def K55_1 : Pl := .st (.act none (.px (some 25) (.build [.slice none 0 0, .slice none 0 0] [(0, 1, .v 15), (1, 1, .v 24)]))) <|
    .st (.act none (.pset none 2 0 2 (.v 25))) <|
    .st (.act none (.px (some 3) (.mv (.c (.bool true))))) .done
@[simp] def W55_1 := @Pl.wpe _ _ K55_1.eq_1
def K55_2 : Pl := .st (.re 16 (.v 1) (some 3) none) <|
    .st (.act none (.ex (some 24) (.call fn_impl_Automaton_values [.v 16, .v 23]))) K55_1
@[simp] def W55_2 := @Pl.wpe _ _ K55_2.eq_1
def K55_3 : Pl := .st (.re 16 (.v 1) (some 3) none) <|
    .st (.re 21 (.v 20) none none) <|
    .st (.act none (.ex (some 23) (.app 8 1 [.int .i64 0] (.o (.v 18)) (.p 1 22)))) K55_2
@[simp] def W55_3 := @Pl.wpe _ _ K55_3.eq_1
def K55_4 : Pl := .st (.re 16 (.v 1) (some 3) none) <|
    .st (.re 21 (.v 20) none none) <|
    .st (.act none (.ex (some 18) (.call fn_impl_clone_int [.v 17]))) K55_3
@[simp] def W55_4 := @Pl.wpe _ _ K55_4.eq_1
def K55_5 : Pl := .st (.re 7 (.v 1) (some 3) none) <|
    .st (.re 16 (.v 1) (some 3) none) <|
    .st (.re 21 (.v 20) none none) <|
    .st (.act none (.ex (some 15) (.call fn_impl_Automaton_values [.v 7, .v 14]))) K55_4
@[simp] def W55_5 := @Pl.wpe _ _ K55_5.eq_1
def K55_6 : Pl := .st (.re 7 (.v 1) (some 3) none) <|
    .st (.re 12 (.v 11) none none) <|
    .st (.re 16 (.v 1) (some 3) none) <|
    .st (.re 21 (.v 20) none none) <|
    .st (.act none (.ex (some 14) (.app 8 1 [.int .i64 0] (.o (.v 9)) (.p 1 13)))) K55_5
@[simp] def W55_6 := @Pl.wpe _ _ K55_6.eq_1
def K55_7 : C := .seq (.pl <| .st (.ext 7 19) <|
    .st (.act none (.ld (some 7) (.v 1) (some 3))) <|
    .st (.act none (.px (some 8) (.mv (.v 4)))) <|
    .st (.act none (.px (some 10) (.mv (.v 5)))) <|
    .st (.act none (.px (some 11) (.ia 1 (.v 10) (.c (.int .i64 0))))) <|
    .st (.act none (.ld (some 12) (.v 11) none)) <|
    .st (.act none (.psl 13 [.int .i64 0] [(0, 1, .v 12)])) <|
    .st (.act none (.ld (some 16) (.v 1) (some 3))) <|
    .st (.act none (.px (some 17) (.mv (.v 5)))) <|
    .st (.act none (.px (some 19) (.mv (.v 5)))) <|
    .st (.act none (.px (some 20) (.ia 1 (.v 19) (.c (.int .i64 0))))) <|
    .st (.act none (.ld (some 21) (.v 20) none)) <|
    .st (.act none (.psl 22 [.int .i64 0] [(0, 1, .v 21)])) <|
    .st (.act none (.ex (some 9) (.call fn_impl_clone_int [.v 8]))) K55_6) (.ret)
@[simp] def W55_7 := @C.wpe _ _ K55_7.eq_1
def K55_8 : C := .seq (.pl <| .st (.ext 7 1) <|
    .st (.act none (.px (some 7) (.build [.slice none 0 0, .slice none 0 0] []))) <|
    .st (.act none (.pset none 2 0 2 (.v 7))) <|
    .st (.act none (.px (some 3) (.mv (.c (.bool false))))) .done) (.ret)
@[simp] def W55_8 := @C.wpe _ _ K55_8.eq_1
def K55_9 : C := .cond 7 (.v 8) K55_8 (.skip)
@[simp] def W55_9 := @C.wpe _ _ K55_9.eq_1
def K55_10 : C := .seq (.seq (.pl <| .st (.ext 7 2) <|
    .st (.act none (.px (some 7) (.mv (.v 6)))) <|
    .st (.act none (.px (some 8) (.un .not (.v 7)))) .done) K55_9) K55_7
@[simp] def W55_10 := @C.wpe _ _ K55_10.eq_1
def K55_11 : Pl := .st (.act none (.px (some 13) (.mv (.v 12)))) <|
    .st (.act none (.px (some 14) (.extract 0 (.v 13)))) <|
    .st (.act none (.px (some 15) (.extract 1 (.v 13)))) <|
    .st (.act none (.px (some 16) (.extract 2 (.v 13)))) <|
    .st (.act none (.px (some 4) (.mv (.v 14)))) <|
    .st (.act none (.px (some 5) (.mv (.v 15)))) <|
    .st (.act none (.px (some 6) (.mv (.v 16)))) .done
@[simp] def W55_11 := @Pl.wpe _ _ K55_11.eq_1
def K55_12 : Pl := .st (.re 10 (.v 9) none none) <|
    .st (.act none (.ex (some 12) (.call fn_impl_lasso [.v 8, .v 10, .v 11]))) K55_11
@[simp] def W55_12 := @Pl.wpe _ _ K55_12.eq_1
def K55_13 : C := .seq (.pl <| .st (.ext 7 10) <|
    .st (.act none (.ld (some 7) (.v 1) (some 3))) <|
    .st (.act none (.px (some 9) (.fa 0 (.v 1)))) <|
    .st (.act none (.ld (some 10) (.v 9) none)) <|
    .st (.act none (.px (some 11) (.mkf (.func fn_impl_FindWord_1) [] [.v 1]))) <|
    .st (.act none (.ex (some 8) (.call fn_impl_Automaton_next [.v 7]))) K55_12) K55_10
@[simp] def W55_13 := @C.wpe _ _ K55_13.eq_1
def K55_14 : C := .seq (.pl <| .st (.ext 7 1) <|
    .st (.act none (.px (some 7) (.build [.slice none 0 0, .slice none 0 0] []))) <|
    .st (.act none (.pset none 2 0 2 (.v 7))) <|
    .st (.act none (.px (some 3) (.mv (.c (.bool false))))) .done) (.ret)
@[simp] def W55_14 := @C.wpe _ _ K55_14.eq_1
def K55_15 : C := .cond 7 (.v 9) K55_14 (.skip)
@[simp] def W55_15 := @C.wpe _ _ K55_15.eq_1
def K55_16 : Pl := .st (.act none (.px (some 9) (.un .not (.v 8)))) .done
@[simp] def W55_16 := @Pl.wpe _ _ K55_16.eq_1
def K55_17 : C := .seq (.seq (.pl <| .st (.ext 7 3) <|
    .st (.act none (.ld (some 7) (.v 1) (some 3))) <|
    .st (.act none (.ex (some 8) (.call fn_impl_AutomatonValid [.v 7]))) K55_16) K55_15) K55_13
@[simp] def W55_17 := @C.wpe _ _ K55_17.eq_1
def K55_18 : Pl := .st (.act none (.pnew 2 (.c (.agg #[.slice none 0 0, .slice none 0 0])) [])) <|
    .st (.act none (.px (some 3) (.mv (.c (.bool false))))) .done
@[simp] def W55_18 := @Pl.wpe _ _ K55_18.eq_1
def B_impl_FindWord : C := .seq (.pl <| .st (.ext 7 0) <|
    .st (.act none (.ex (some 1) (.alloc (.v 0)))) K55_18) K55_17
@[simp] def WB_impl_FindWord := @C.wpe _ _ B_impl_FindWord.eq_1
def R_impl_FindWord : FIR := ⟨B_impl_FindWord, 7, [(2, some (some 2)), (3, none)]⟩
theorem IR_impl_FindWord : cfun Try.prog H_impl_FindWord Try.f55 = some R_impl_FindWord := by kernel_rfl
theorem EN_impl_FindWord {args : List Value} {h : Heap} {k : Value → Heap → Prop} (hargs : args.length = 1) (hw : B_impl_FindWord.wp Try.prog (retQ [(2, some (some 2)), (3, none)] k) (env0 args 7) h) : CallE Try.prog fn_impl_FindWord args h k := enter Try.func55 rfl IR_impl_FindWord hargs hw

def H_impl_FindWord_1 : Hint := ⟨[(0, false), (1, false), (3, false)], []⟩
def K94_1 : C := .seq (.pl <| .st (.ext 3 5) <|
    .st (.act none (.px (some 3) (.fa 1 (.v 1)))) <|
    .st (.act none (.ld (some 4) (.v 3) none)) <|
    .st (.act none (.px (some 5) (.mv (.v 0)))) <|
    .st (.act none (.px (some 6) (.ia 1 (.v 4) (.v 5)))) <|
    .st (.act none (.ld (some 7) (.v 6) none)) <|
    .st (.act none (.px (some 2) (.mv (.v 7)))) .done) (.ret)
@[simp] def W94_1 := @C.wpe _ _ K94_1.eq_1
def B_impl_FindWord_1 : C := .seq (.pl <| .st (.ext 3 0) <|
    .st (.act none (.px (some 2) (.mv (.c (.bool false))))) .done) K94_1
@[simp] def WB_impl_FindWord_1 := @C.wpe _ _ B_impl_FindWord_1.eq_1
def R_impl_FindWord_1 : FIR := ⟨B_impl_FindWord_1, 3, [(2, none)]⟩
theorem IR_impl_FindWord_1 : cfun Try.prog H_impl_FindWord_1 Try.f94 = some R_impl_FindWord_1 := by kernel_rfl
theorem EN_impl_FindWord_1 {args : List Value} {h : Heap} {k : Value → Heap → Prop} (hargs : args.length = 2) (hw : B_impl_FindWord_1.wp Try.prog (retQ [(2, none)] k) (env0 args 3) h) : CallE Try.prog fn_impl_FindWord_1 args h k := enter Try.func94 rfl IR_impl_FindWord_1 hargs hw

def H_impl_LassoValid : Hint := ⟨[(0, false), (1, true), (2, false)], []⟩
def K58_1 : Pl := .st (.act none (.px (some 22) (.pick (.v 17) (.v 21) (.c (.bool false))))) <|
    .st (.act none (.px (some 2) (.mv (.v 22)))) .done
@[simp] def W58_1 := @Pl.wpe _ _ K58_1.eq_1
def K58_2 : Pl := .st (.act none (.px (some 10) (.pick (.v 6) (.v 9) (.c (.bool false))))) <|
    .st (.act none (.px (some 11) (.mv (.v 10)))) <|
    .st (.act (some (.v 11, true)) (.als 12 none 1)) <|
    .st (.act (some (.v 11, true)) (.pget (some 13) (some 12) 1 0 none)) <|
    .st (.act (some (.v 11, true)) (.px (some 14) (.lenV (.v 13)))) <|
    .st (.act (some (.v 11, true)) (.px (some 15) (.bin .leq (.v 14) (.c (.int .i64 80))))) <|
    .st (.act none (.px (some 16) (.pick (.v 11) (.v 15) (.c (.bool false))))) <|
    .st (.act none (.px (some 17) (.mv (.v 16)))) <|
    .st (.act (some (.v 17, true)) (.als 18 none 1)) <|
    .st (.act (some (.v 17, true)) (.pget (some 19) (some 18) 1 1 none)) <|
    .st (.act (some (.v 17, true)) (.px (some 20) (.lenV (.v 19)))) <|
    .st (.act (some (.v 17, true)) (.ex (some 21) (.call fn_impl_in [.v 20, .c (.int .i64 1), .c (.int .i64 80)]))) K58_1
@[simp] def W58_2 := @Pl.wpe _ _ K58_2.eq_1
def K58_3 : Pl := .st (.act none (.px (some 6) (.mv (.v 5)))) <|
    .st (.act (some (.v 6, true)) (.als 7 none 1)) <|
    .st (.act (some (.v 6, true)) (.pget (some 8) (some 7) 1 1 none)) <|
    .st (.act (some (.v 6, true)) (.ex (some 9) (.call fn_impl_letters [.v 8]))) K58_2
@[simp] def W58_3 := @Pl.wpe _ _ K58_3.eq_1
def K58_4 : C := .seq (.pl <| .st (.ext 3 20) <|
    .st (.act none (.als 3 none 1)) <|
    .st (.act none (.pget (some 4) (some 3) 1 0 none)) <|
    .st (.act none (.ex (some 5) (.call fn_impl_letters [.v 4]))) K58_3) (.ret)
@[simp] def W58_4 := @C.wpe _ _ K58_4.eq_1
def B_impl_LassoValid : C := .seq (.pl <| .st (.ext 3 0) <|
    .st (.act none (.pnew 1 (.v 0) [])) <|
    .st (.act none (.px (some 2) (.mv (.c (.bool false))))) .done) K58_4
@[simp] def WB_impl_LassoValid := @C.wpe _ _ B_impl_LassoValid.eq_1
def R_impl_LassoValid : FIR := ⟨B_impl_LassoValid, 3, [(2, none)]⟩
theorem IR_impl_LassoValid : cfun Try.prog H_impl_LassoValid Try.f58 = some R_impl_LassoValid := by kernel_rfl
theorem EN_impl_LassoValid {args : List Value} {h : Heap} {k : Value → Heap → Prop} (hargs : args.length = 1) (hw : B_impl_LassoValid.wp Try.prog (retQ [(2, none)] k) (env0 args 3) h) : CallE Try.prog fn_impl_LassoValid args h k := enter Try.func58 rfl IR_impl_LassoValid hargs hw

def H_impl_MergeStates : Hint := ⟨[(0, false), (1, true), (2, true), (3, false)], []⟩
def K22_1 : Pl := .st (.act none (.pset none 2 0 3 (.v 5))) <|
    .st (.act none (.px (some 3) (.mv (.c (.bool true))))) .done
@[simp] def W22_1 := @Pl.wpe _ _ K22_1.eq_1
def K22_2 : C := .seq (.pl <| .st (.ext 4 2) <|
    .st (.act none (.pget (some 4) none 1 0 (some 3))) <|
    .st (.act none (.ex (some 5) (.call fn_impl_Automaton_merge [.v 4]))) K22_1) (.ret)
@[simp] def W22_2 := @C.wpe _ _ K22_2.eq_1
def K22_3 : C := .seq (.pl <| .st (.ext 4 1) <|
    .st (.act none (.px (some 4) (.build [.slice none 0 0, .slice none 0 0, .slice none 0 0] []))) <|
    .st (.act none (.pset none 2 0 3 (.v 4))) <|
    .st (.act none (.px (some 3) (.mv (.c (.bool false))))) .done) (.ret)
@[simp] def W22_3 := @C.wpe _ _ K22_3.eq_1
def K22_4 : C := .cond 4 (.v 6) K22_3 (.skip)
@[simp] def W22_4 := @C.wpe _ _ K22_4.eq_1
def K22_5 : Pl := .st (.act none (.px (some 6) (.un .not (.v 5)))) .done
@[simp] def W22_5 := @Pl.wpe _ _ K22_5.eq_1
def K22_6 : C := .seq (.seq (.pl <| .st (.ext 4 3) <|
    .st (.act none (.pget (some 4) none 1 0 (some 3))) <|
    .st (.act none (.ex (some 5) (.call fn_impl_AutomatonValid [.v 4]))) K22_5) K22_4) K22_2
@[simp] def W22_6 := @C.wpe _ _ K22_6.eq_1
def B_impl_MergeStates : C := .seq (.pl <| .st (.ext 4 0) <|
    .st (.act none (.pnew 1 (.v 0) [])) <|
    .st (.act none (.pnew 2 (.c (.agg #[.slice none 0 0, .slice none 0 0, .slice none 0 0])) [])) <|
    .st (.act none (.px (some 3) (.mv (.c (.bool false))))) .done) K22_6
@[simp] def WB_impl_MergeStates := @C.wpe _ _ B_impl_MergeStates.eq_1
def R_impl_MergeStates : FIR := ⟨B_impl_MergeStates, 4, [(2, some (some 3)), (3, none)]⟩
theorem IR_impl_MergeStates : cfun Try.prog H_impl_MergeStates Try.f22 = some R_impl_MergeStates := by kernel_rfl
theorem EN_impl_MergeStates {args : List Value} {h : Heap} {k : Value → Heap → Prop} (hargs : args.length = 1) (hw : B_impl_MergeStates.wp Try.prog (retQ [(2, some (some 3)), (3, none)] k) (env0 args 4) h) : CallE Try.prog fn_impl_MergeStates args h k := enter Try.func22 rfl IR_impl_MergeStates hargs hw

def H_impl_PrefixStates : Hint := ⟨[(0, false), (1, false), (2, true), (4, false), (5, false)], []⟩
def K17_1 : Pl := .st (.act none (.px (some 3) (.mv (.v 7)))) <|
    .st (.act none (.px (some 4) (.mv (.c (.bool true))))) .done
@[simp] def W17_1 := @Pl.wpe _ _ K17_1.eq_1
def K17_2 : C := .seq (.pl <| .st (.ext 5 3) <|
    .st (.act none (.pget (some 5) none 2 0 (some 3))) <|
    .st (.act none (.px (some 6) (.mv (.v 1)))) <|
    .st (.act none (.ex (some 7) (.call fn_impl_Automaton_prefix [.v 5, .v 6]))) K17_1) (.ret)
@[simp] def W17_2 := @C.wpe _ _ K17_2.eq_1
def K17_3 : C := .seq (.pl <| .st (.ext 5 0) <|
    .st (.act none (.px (some 3) (.mv (.c (.slice none 0 0))))) <|
    .st (.act none (.px (some 4) (.mv (.c (.bool false))))) .done) (.ret)
@[simp] def W17_3 := @C.wpe _ _ K17_3.eq_1
def K17_4 : C := .cond 5 (.v 12) K17_3 (.skip)
@[simp] def W17_4 := @C.wpe _ _ K17_4.eq_1
def K17_5 : Pl := .st (.act (some (.v 8, false)) (.px (some 11) (.un .not (.v 10)))) <|
    .st (.act none (.px (some 12) (.pick (.v 8) (.c (.bool true)) (.v 11)))) .done
@[simp] def W17_5 := @Pl.wpe _ _ K17_5.eq_1
def K17_6 : Pl := .st (.act none (.px (some 7) (.un .not (.v 6)))) <|
    .st (.act none (.px (some 8) (.mv (.v 7)))) <|
    .st (.act (some (.v 8, false)) (.px (some 9) (.mv (.v 1)))) <|
    .st (.act (some (.v 8, false)) (.ex (some 10) (.call fn_impl_wordOk [.v 9]))) K17_5
@[simp] def W17_6 := @Pl.wpe _ _ K17_6.eq_1
def K17_7 : C := .seq (.seq (.pl <| .st (.ext 5 8) <|
    .st (.act none (.pget (some 5) none 2 0 (some 3))) <|
    .st (.act none (.ex (some 6) (.call fn_impl_AutomatonValid [.v 5]))) K17_6) K17_4) K17_2
@[simp] def W17_7 := @C.wpe _ _ K17_7.eq_1
def B_impl_PrefixStates : C := .seq (.pl <| .st (.ext 5 0) <|
    .st (.act none (.pnew 2 (.v 0) [])) <|
    .st (.act none (.px (some 3) (.mv (.c (.slice none 0 0))))) <|
    .st (.act none (.px (some 4) (.mv (.c (.bool false))))) .done) K17_7
@[simp] def WB_impl_PrefixStates := @C.wpe _ _ B_impl_PrefixStates.eq_1
def R_impl_PrefixStates : FIR := ⟨B_impl_PrefixStates, 5, [(3, none), (4, none)]⟩
theorem IR_impl_PrefixStates : cfun Try.prog H_impl_PrefixStates Try.f17 = some R_impl_PrefixStates := by kernel_rfl
theorem EN_impl_PrefixStates {args : List Value} {h : Heap} {k : Value → Heap → Prop} (hargs : args.length = 2) (hw : B_impl_PrefixStates.wp Try.prog (retQ [(3, none), (4, none)] k) (env0 args 5) h) : CallE Try.prog fn_impl_PrefixStates args h k := enter Try.func17 rfl IR_impl_PrefixStates hargs hw

def H_impl_SimplifyAutomaton : Hint := ⟨[(0, false), (1, true), (2, true), (3, false)], []⟩
def K24_1 : Pl := .st (.act none (.pset none 2 0 3 (.v 5))) <|
    .st (.act none (.px (some 3) (.mv (.c (.bool true))))) .done
@[simp] def W24_1 := @Pl.wpe _ _ K24_1.eq_1
def K24_2 : C := .seq (.pl <| .st (.ext 4 2) <|
    .st (.act none (.pget (some 4) none 1 0 (some 3))) <|
    .st (.act none (.ex (some 5) (.call fn_impl_Automaton_simplify [.v 4]))) K24_1) (.ret)
@[simp] def W24_2 := @C.wpe _ _ K24_2.eq_1
def K24_3 : C := .seq (.pl <| .st (.ext 4 1) <|
    .st (.act none (.px (some 4) (.build [.slice none 0 0, .slice none 0 0, .slice none 0 0] []))) <|
    .st (.act none (.pset none 2 0 3 (.v 4))) <|
    .st (.act none (.px (some 3) (.mv (.c (.bool false))))) .done) (.ret)
@[simp] def W24_3 := @C.wpe _ _ K24_3.eq_1
def K24_4 : C := .cond 4 (.v 6) K24_3 (.skip)
@[simp] def W24_4 := @C.wpe _ _ K24_4.eq_1
def K24_5 : Pl := .st (.act none (.px (some 6) (.un .not (.v 5)))) .done
@[simp] def W24_5 := @Pl.wpe _ _ K24_5.eq_1
def K24_6 : C := .seq (.seq (.pl <| .st (.ext 4 3) <|
    .st (.act none (.pget (some 4) none 1 0 (some 3))) <|
    .st (.act none (.ex (some 5) (.call fn_impl_AutomatonValid [.v 4]))) K24_5) K24_4) K24_2
@[simp] def W24_6 := @C.wpe _ _ K24_6.eq_1
def B_impl_SimplifyAutomaton : C := .seq (.pl <| .st (.ext 4 0) <|
    .st (.act none (.pnew 1 (.v 0) [])) <|
    .st (.act none (.pnew 2 (.c (.agg #[.slice none 0 0, .slice none 0 0, .slice none 0 0])) [])) <|
    .st (.act none (.px (some 3) (.mv (.c (.bool false))))) .done) K24_6
@[simp] def WB_impl_SimplifyAutomaton := @C.wpe _ _ B_impl_SimplifyAutomaton.eq_1
def R_impl_SimplifyAutomaton : FIR := ⟨B_impl_SimplifyAutomaton, 4, [(2, some (some 3)), (3, none)]⟩
theorem IR_impl_SimplifyAutomaton : cfun Try.prog H_impl_SimplifyAutomaton Try.f24 = some R_impl_SimplifyAutomaton := by kernel_rfl
theorem EN_impl_SimplifyAutomaton {args : List Value} {h : Heap} {k : Value → Heap → Prop} (hargs : args.length = 1) (hw : B_impl_SimplifyAutomaton.wp Try.prog (retQ [(2, some (some 3)), (3, none)] k) (env0 args 4) h) : CallE Try.prog fn_impl_SimplifyAutomaton args h k := enter Try.func24 rfl IR_impl_SimplifyAutomaton hargs hw

def H_impl_Transition_takes : Hint := ⟨[(0, false), (1, false), (2, true), (4, false)], []⟩
def K107_1 : C := .seq (.pl <| .st (.ext 4 7) <|
    .st (.act none (.px (some 4) (.mv (.v 1)))) <|
    .st (.act none (.als 5 none 2)) <|
    .st (.act none (.pget (some 6) (some 5) 2 1 none)) <|
    .st (.act none (.px (some 7) (.bin .and (.v 4) (.v 6)))) <|
    .st (.act none (.als 8 none 2)) <|
    .st (.act none (.pget (some 9) (some 8) 2 2 none)) <|
    .st (.act none (.px (some 10) (.bin .eql (.v 7) (.v 9)))) <|
    .st (.act none (.px (some 3) (.mv (.v 10)))) .done) (.ret)
@[simp] def W107_1 := @C.wpe _ _ K107_1.eq_1
def B_impl_Transition_takes : C := .seq (.pl <| .st (.ext 4 0) <|
    .st (.act none (.pnew 2 (.v 0) [])) <|
    .st (.act none (.px (some 3) (.mv (.c (.bool false))))) .done) K107_1
@[simp] def WB_impl_Transition_takes := @C.wpe _ _ B_impl_Transition_takes.eq_1
def R_impl_Transition_takes : FIR := ⟨B_impl_Transition_takes, 4, [(3, none)]⟩
theorem IR_impl_Transition_takes : cfun Try.prog H_impl_Transition_takes Try.f107 = some R_impl_Transition_takes := by kernel_rfl
theorem EN_impl_Transition_takes {args : List Value} {h : Heap} {k : Value → Heap → Prop} (hargs : args.length = 2) (hw : B_impl_Transition_takes.wp Try.prog (retQ [(3, none)] k) (env0 args 4) h) : CallE Try.prog fn_impl_Transition_takes args h k := enter Try.func107 rfl IR_impl_Transition_takes hargs hw

def H_impl_TrimAutomaton : Hint := ⟨[(0, false), (1, true), (2, true), (3, false)], []⟩
def K11_1 : Pl := .st (.act none (.pset none 2 0 3 (.v 5))) <|
    .st (.act none (.px (some 3) (.mv (.c (.bool true))))) .done
@[simp] def W11_1 := @Pl.wpe _ _ K11_1.eq_1
def K11_2 : C := .seq (.pl <| .st (.ext 4 2) <|
    .st (.act none (.pget (some 4) none 1 0 (some 3))) <|
    .st (.act none (.ex (some 5) (.call fn_impl_Automaton_trim [.v 4]))) K11_1) (.ret)
@[simp] def W11_2 := @C.wpe _ _ K11_2.eq_1
def K11_3 : C := .seq (.pl <| .st (.ext 4 1) <|
    .st (.act none (.px (some 4) (.build [.slice none 0 0, .slice none 0 0, .slice none 0 0] []))) <|
    .st (.act none (.pset none 2 0 3 (.v 4))) <|
    .st (.act none (.px (some 3) (.mv (.c (.bool false))))) .done) (.ret)
@[simp] def W11_3 := @C.wpe _ _ K11_3.eq_1
def K11_4 : C := .cond 4 (.v 6) K11_3 (.skip)
@[simp] def W11_4 := @C.wpe _ _ K11_4.eq_1
def K11_5 : Pl := .st (.act none (.px (some 6) (.un .not (.v 5)))) .done
@[simp] def W11_5 := @Pl.wpe _ _ K11_5.eq_1
def K11_6 : C := .seq (.seq (.pl <| .st (.ext 4 3) <|
    .st (.act none (.pget (some 4) none 1 0 (some 3))) <|
    .st (.act none (.ex (some 5) (.call fn_impl_AutomatonValid [.v 4]))) K11_5) K11_4) K11_2
@[simp] def W11_6 := @C.wpe _ _ K11_6.eq_1
def B_impl_TrimAutomaton : C := .seq (.pl <| .st (.ext 4 0) <|
    .st (.act none (.pnew 1 (.v 0) [])) <|
    .st (.act none (.pnew 2 (.c (.agg #[.slice none 0 0, .slice none 0 0, .slice none 0 0])) [])) <|
    .st (.act none (.px (some 3) (.mv (.c (.bool false))))) .done) K11_6
@[simp] def WB_impl_TrimAutomaton := @C.wpe _ _ B_impl_TrimAutomaton.eq_1
def R_impl_TrimAutomaton : FIR := ⟨B_impl_TrimAutomaton, 4, [(2, some (some 3)), (3, none)]⟩
theorem IR_impl_TrimAutomaton : cfun Try.prog H_impl_TrimAutomaton Try.f11 = some R_impl_TrimAutomaton := by kernel_rfl
theorem EN_impl_TrimAutomaton {args : List Value} {h : Heap} {k : Value → Heap → Prop} (hargs : args.length = 1) (hw : B_impl_TrimAutomaton.wp Try.prog (retQ [(2, some (some 3)), (3, none)] k) (env0 args 4) h) : CallE Try.prog fn_impl_TrimAutomaton args h k := enter Try.func11 rfl IR_impl_TrimAutomaton hargs hw

def H_impl_around : Hint := ⟨[(0, false), (1, false), (2, false), (3, false), (4, false)], []⟩
def K119_1 : Pl := .st (.act none (.px (some 4) (.mv (.v 9)))) .done
@[simp] def W119_1 := @Pl.wpe _ _ K119_1.eq_1
def K119_2 : Pl := .st (.act none (.px (some 8) (.mkf (.func fn_impl_around_1) [] [.v 3, .v 2]))) <|
    .st (.act none (.ex (some 9) (.call fn_impl_shortest [.v 5, .v 7, .v 8]))) K119_1
@[simp] def W119_2 := @Pl.wpe _ _ K119_2.eq_1
def K119_3 : C := .seq (.pl <| .st (.ext 5 5) <|
    .st (.act none (.ld (some 5) (.v 2) none)) <|
    .st (.act none (.ld (some 6) (.v 3) none)) <|
    .st (.act none (.ex (some 7) (.bls 1 1 [.int .i64 0] [(0, 1, .v 6)]))) K119_2) (.ret)
@[simp] def W119_3 := @C.wpe _ _ K119_3.eq_1
def K119_4 : Pl := .st (.act none (.px (some 4) (.mv (.v 6)))) .done
@[simp] def W119_4 := @Pl.wpe _ _ K119_4.eq_1
def K119_5 : C := .seq (.pl <| .st (.ext 5 2) <|
    .st (.act none (.ld (some 5) (.v 3) none)) <|
    .st (.act none (.ex (some 6) (.bls 1 1 [.int .i64 0] [(0, 1, .v 5)]))) K119_4) (.ret)
@[simp] def W119_5 := @C.wpe _ _ K119_5.eq_1
def K119_6 : C := .cond 5 (.v 10) K119_5 (.skip)
@[simp] def W119_6 := @C.wpe _ _ K119_6.eq_1
def K119_7 : C := .seq (.seq (.pl <| .st (.ext 5 6) <|
    .st (.act none (.ld (some 5) (.v 2) none)) <|
    .st (.act none (.ld (some 6) (.v 3) none)) <|
    .st (.act none (.px (some 7) (.ia 1 (.v 5) (.v 6)))) <|
    .st (.act none (.ld (some 8) (.v 7) none)) <|
    .st (.act none (.ld (some 9) (.v 3) none)) <|
    .st (.act none (.ex (some 10) (.call fn_slices_Contains_S_int_int [.v 8, .v 9]))) .done) K119_6) K119_3
@[simp] def W119_7 := @C.wpe _ _ K119_7.eq_1
def K119_8 : Pl := .st (.act none (.px (some 4) (.mv (.c (.slice none 0 0))))) .done
@[simp] def W119_8 := @Pl.wpe _ _ K119_8.eq_1
def K119_9 : Pl := .st (.act none (.ex (some 3) (.alloc (.v 1)))) K119_8
@[simp] def W119_9 := @Pl.wpe _ _ K119_9.eq_1
def B_impl_around : C := .seq (.pl <| .st (.ext 5 0) <|
    .st (.act none (.ex (some 2) (.alloc (.v 0)))) K119_9) K119_7
@[simp] def WB_impl_around := @C.wpe _ _ B_impl_around.eq_1
def R_impl_around : FIR := ⟨B_impl_around, 5, [(4, none)]⟩
theorem IR_impl_around : cfun Try.prog H_impl_around Try.f119 = some R_impl_around := by kernel_rfl
theorem EN_impl_around {args : List Value} {h : Heap} {k : Value → Heap → Prop} (hargs : args.length = 2) (hw : B_impl_around.wp Try.prog (retQ [(4, none)] k) (env0 args 5) h) : CallE Try.prog fn_impl_around args h k := enter Try.func119 rfl IR_impl_around hargs hw

def H_impl_around_1 : Hint := ⟨[(0, false), (1, false), (2, false), (4, false)], []⟩
def K142_1 : Pl := .st (.act none (.px (some 14) (.pick (.v 7) (.v 13) (.c (.bool false))))) <|
    .st (.act none (.px (some 3) (.mv (.v 14)))) .done
@[simp] def W142_1 := @Pl.wpe _ _ K142_1.eq_1
def K142_2 : C := .seq (.pl <| .st (.ext 4 11) <|
    .st (.act none (.px (some 4) (.mv (.v 0)))) <|
    .st (.act none (.ld (some 5) (.v 1) none)) <|
    .st (.act none (.px (some 6) (.bin .neq (.v 4) (.v 5)))) <|
    .st (.act none (.px (some 7) (.mv (.v 6)))) <|
    .st (.act (some (.v 7, true)) (.ld (some 8) (.v 2) none)) <|
    .st (.act (some (.v 7, true)) (.px (some 9) (.mv (.v 0)))) <|
    .st (.act (some (.v 7, true)) (.px (some 10) (.ia 1 (.v 8) (.v 9)))) <|
    .st (.act (some (.v 7, true)) (.ld (some 11) (.v 10) none)) <|
    .st (.act (some (.v 7, true)) (.ld (some 12) (.v 1) none)) <|
    .st (.act (some (.v 7, true)) (.ex (some 13) (.call fn_slices_Contains_S_int_int [.v 11, .v 12]))) K142_1) (.ret)
@[simp] def W142_2 := @C.wpe _ _ K142_2.eq_1
def B_impl_around_1 : C := .seq (.pl <| .st (.ext 4 0) <|
    .st (.act none (.px (some 3) (.mv (.c (.bool false))))) .done) K142_2
@[simp] def WB_impl_around_1 := @C.wpe _ _ B_impl_around_1.eq_1
def R_impl_around_1 : FIR := ⟨B_impl_around_1, 4, [(3, none)]⟩
theorem IR_impl_around_1 : cfun Try.prog H_impl_around_1 Try.f142 = some R_impl_around_1 := by kernel_rfl
theorem EN_impl_around_1 {args : List Value} {h : Heap} {k : Value → Heap → Prop} (hargs : args.length = 3) (hw : B_impl_around_1.wp Try.prog (retQ [(3, none)] k) (env0 args 4) h) : CallE Try.prog fn_impl_around_1 args h k := enter Try.func142 rfl IR_impl_around_1 hargs hw

def H_impl_clone_bool : Hint := ⟨[(0, false), (2, false)], []⟩
def K102_1 : Pl := .st (.act none (.px (some 1) (.mv (.v 4)))) .done
@[simp] def W102_1 := @Pl.wpe _ _ K102_1.eq_1
def K102_2 : Pl := .st (.act none (.ex (some 4) (.call fn_slices_Clip_S_bool_bool [.v 3]))) K102_1
@[simp] def W102_2 := @Pl.wpe _ _ K102_2.eq_1
def K102_3 : C := .seq (.pl <| .st (.ext 2 3) <|
    .st (.act none (.px (some 2) (.mv (.v 0)))) <|
    .st (.act none (.ex (some 3) (.call fn_slices_Clone_S_bool_bool [.v 2]))) K102_2) (.ret)
@[simp] def W102_3 := @C.wpe _ _ K102_3.eq_1
def B_impl_clone_bool : C := .seq (.pl <| .st (.ext 2 0) <|
    .st (.act none (.px (some 1) (.mv (.c (.slice none 0 0))))) .done) K102_3
@[simp] def WB_impl_clone_bool := @C.wpe _ _ B_impl_clone_bool.eq_1
def R_impl_clone_bool : FIR := ⟨B_impl_clone_bool, 2, [(1, none)]⟩
theorem IR_impl_clone_bool : cfun Try.prog H_impl_clone_bool Try.f102 = some R_impl_clone_bool := by kernel_rfl
theorem EN_impl_clone_bool {args : List Value} {h : Heap} {k : Value → Heap → Prop} (hargs : args.length = 1) (hw : B_impl_clone_bool.wp Try.prog (retQ [(1, none)] k) (env0 args 2) h) : CallE Try.prog fn_impl_clone_bool args h k := enter Try.func102 rfl IR_impl_clone_bool hargs hw

def H_impl_clone_impl_Transition : Hint := ⟨[(0, false), (2, false)], []⟩
def K103_1 : Pl := .st (.act none (.px (some 1) (.mv (.v 4)))) .done
@[simp] def W103_1 := @Pl.wpe _ _ K103_1.eq_1
def K103_2 : Pl := .st (.act none (.ex (some 4) (.call fn_slices_Clip_S_impl_Transition_impl_Transition [.v 3]))) K103_1
@[simp] def W103_2 := @Pl.wpe _ _ K103_2.eq_1
def K103_3 : C := .seq (.pl <| .st (.ext 2 3) <|
    .st (.act none (.px (some 2) (.mv (.v 0)))) <|
    .st (.act none (.ex (some 3) (.call fn_slices_Clone_S_impl_Transition_impl_Transition [.v 2]))) K103_2) (.ret)
@[simp] def W103_3 := @C.wpe _ _ K103_3.eq_1
def B_impl_clone_impl_Transition : C := .seq (.pl <| .st (.ext 2 0) <|
    .st (.act none (.px (some 1) (.mv (.c (.slice none 0 0))))) .done) K103_3
@[simp] def WB_impl_clone_impl_Transition := @C.wpe _ _ B_impl_clone_impl_Transition.eq_1
def R_impl_clone_impl_Transition : FIR := ⟨B_impl_clone_impl_Transition, 2, [(1, none)]⟩
theorem IR_impl_clone_impl_Transition : cfun Try.prog H_impl_clone_impl_Transition Try.f103 = some R_impl_clone_impl_Transition := by kernel_rfl
theorem EN_impl_clone_impl_Transition {args : List Value} {h : Heap} {k : Value → Heap → Prop} (hargs : args.length = 1) (hw : B_impl_clone_impl_Transition.wp Try.prog (retQ [(1, none)] k) (env0 args 2) h) : CallE Try.prog fn_impl_clone_impl_Transition args h k := enter Try.func103 rfl IR_impl_clone_impl_Transition hargs hw

def H_impl_clone_int : Hint := ⟨[(0, false), (2, false)], []⟩
def K96_1 : Pl := .st (.act none (.px (some 1) (.mv (.v 4)))) .done
@[simp] def W96_1 := @Pl.wpe _ _ K96_1.eq_1
def K96_2 : Pl := .st (.act none (.ex (some 4) (.call fn_slices_Clip_S_int_int [.v 3]))) K96_1
@[simp] def W96_2 := @Pl.wpe _ _ K96_2.eq_1
def K96_3 : C := .seq (.pl <| .st (.ext 2 3) <|
    .st (.act none (.px (some 2) (.mv (.v 0)))) <|
    .st (.act none (.ex (some 3) (.call fn_slices_Clone_S_int_int [.v 2]))) K96_2) (.ret)
@[simp] def W96_3 := @C.wpe _ _ K96_3.eq_1
def B_impl_clone_int : C := .seq (.pl <| .st (.ext 2 0) <|
    .st (.act none (.px (some 1) (.mv (.c (.slice none 0 0))))) .done) K96_3
@[simp] def WB_impl_clone_int := @C.wpe _ _ B_impl_clone_int.eq_1
def R_impl_clone_int : FIR := ⟨B_impl_clone_int, 2, [(1, none)]⟩
theorem IR_impl_clone_int : cfun Try.prog H_impl_clone_int Try.f96 = some R_impl_clone_int := by kernel_rfl
theorem EN_impl_clone_int {args : List Value} {h : Heap} {k : Value → Heap → Prop} (hargs : args.length = 1) (hw : B_impl_clone_int.wp Try.prog (retQ [(1, none)] k) (env0 args 2) h) : CallE Try.prog fn_impl_clone_int args h k := enter Try.func96 rfl IR_impl_clone_int hargs hw

def H_impl_components : Hint := ⟨[(0, false), (1, false), (2, false), (3, false), (4, false), (5, false), (6, false), (7, false), (8, false), (9, false), (10, false), (11, false), (12, false), (13, false), (14, false), (15, false), (17, false), (27, false), (28, false), (36, false), (37, false), (50, false), (51, false), (52, false)], [[0, 2, 7, 8, 9, 10, 11, 12, 13, 14, 15, 16, 19, 20, 21, 22, 23], [0, 1, 2, 3, 5, 7, 8, 9, 10, 12, 13, 14, 15, 16, 17, 18, 21, 22, 23], [0, 1, 2, 3, 4, 5, 7, 8, 9, 10, 11, 12, 14, 15, 16, 17, 18, 19, 20]]⟩
def K122_1 : C := .seq (.pl <| .st (.ext 24 1) <|
    .st (.act none (.ld (some 24) (.v 6) none)) <|
    .st (.act none (.px (some 2) (.mv (.v 24)))) .done) (.ret)
@[simp] def W122_1 := @C.wpe _ _ K122_1.eq_1
def K122_2 : C := .pl <| .st (.ext 24 1) <|
    .st (.act none (.px (some 24) (.bin .add (.v 23) (.c (.int .i64 1))))) <|
    .st (.act none (.px (some 23) (.mv (.v 24)))) .done
@[simp] def W122_2 := @C.wpe _ _ K122_2.eq_1
def K122_3 : Pl := .st (.act none (.px (some 29) (.ia 1 (.v 24) (.v 25)))) <|
    .st (.act none (.ex none (.store 1 (.v 29) (.v 28)))) .done
@[simp] def W122_3 := @Pl.wpe _ _ K122_3.eq_1
def K122_4 : C := .pl <| .st (.ext 24 6) <|
    .st (.act none (.ld (some 24) (.v 6) none)) <|
    .st (.act none (.px (some 25) (.mv (.v 14)))) <|
    .st (.act none (.px (some 26) (.mv (.v 13)))) <|
    .st (.act none (.px (some 27) (.mv (.v 15)))) <|
    .st (.act none (.ex (some 28) (.mget (.one .i) (.int .i64 0) false (.v 26) (.v 27)))) K122_3
@[simp] def W122_4 := @C.wpe _ _ K122_4.eq_1
def K122_5 : Pl := .st (.act none (.ex none (.mput (.one .i) (.v 24) (.v 25) (.v 27)))) .done
@[simp] def W122_5 := @Pl.wpe _ _ K122_5.eq_1
def K122_6 : C := .pl <| .st (.ext 24 4) <|
    .st (.act none (.px (some 24) (.mv (.v 13)))) <|
    .st (.act none (.px (some 25) (.mv (.v 15)))) <|
    .st (.act none (.px (some 26) (.mv (.v 13)))) <|
    .st (.act none (.ex (some 27) (.mlen (.v 26)))) K122_5
@[simp] def W122_6 := @C.wpe _ _ K122_6.eq_1
def K122_7 : C := .cond 24 (.v 25) K122_6 (.skip)
@[simp] def W122_7 := @C.wpe _ _ K122_7.eq_1
def K122_8 : C := .seq (.pl <| .st (.ext 24 2) <|
    .st (.act none (.px (some 24) (.mv (.v 16)))) <|
    .st (.act none (.px (some 25) (.un .not (.v 24)))) .done) K122_7
@[simp] def W122_8 := @C.wpe _ _ K122_8.eq_1
def K122_9 : Pl := .st (.act none (.px (some 27) (.mv (.v 26)))) <|
    .st (.act none (.px (some 28) (.extract 0 (.v 27)))) <|
    .st (.act none (.px (some 29) (.extract 1 (.v 27)))) <|
    .st (.act none (.px (some 30) (.mv (.v 28)))) <|
    .st (.act none (.px (some 16) (.mv (.v 29)))) .done
@[simp] def W122_9 := @Pl.wpe _ _ K122_9.eq_1
def K122_10 : C := .seq (.seq (.pl <| .st (.ext 24 7) <|
    .st (.act none (.px (some 24) (.mv (.v 13)))) <|
    .st (.act none (.px (some 25) (.mv (.v 15)))) <|
    .st (.act none (.ex (some 26) (.mget (.one .i) (.int .i64 0) true (.v 24) (.v 25)))) K122_9) K122_8) K122_4
@[simp] def W122_10 := @C.wpe _ _ K122_10.eq_1
def K122_11 : C := .seq (.block 5 (.seq (.pl <| .st (.ext 24 3) <|
    .st (.act none (.px (some 24) (.mv (.v 23)))) <|
    .st (.act none (.px (some 25) (.ia 1 (.v 21) (.v 23)))) <|
    .st (.act none (.ld (some 26) (.v 25) none)) <|
    .st (.act none (.px (some 14) (.mv (.v 24)))) <|
    .st (.act none (.px (some 15) (.mv (.v 26)))) .done) K122_10)) K122_2
@[simp] def W122_11 := @C.wpe _ _ K122_11.eq_1
def K122_12 : C := .seq (.cond 24 (.v 24) (.skip) (.exit 4)) K122_11
@[simp] def W122_12 := @C.wpe _ _ K122_12.eq_1
def K122_13 : C := .seq (.pl <| .st (.ext 24 1) <|
    .st (.act none (.px (some 24) (.bin .lss (.v 23) (.v 22)))) .done) K122_12
@[simp] def W122_13 := @C.wpe _ _ K122_13.eq_1
def K122_14 : C := .block 4 (.loop 24 [0, 1, 2, 3, 4, 5, 7, 8, 9, 10, 11, 12, 14, 15, 16, 17, 18, 19, 20] K122_13)
@[simp] def W122_14 := @C.wpe _ _ K122_14.eq_1
def K122_15 : C := .seq (.seq (.pl <| .st (.ext 24 0) <|
    .st (.act none (.ld (some 21) (.v 6) none)) <|
    .st (.act none (.px (some 22) (.lenV (.v 21)))) <|
    .st (.act none (.px (some 23) (.mv (.c (.int .i64 0))))) .done) K122_14) K122_1
@[simp] def W122_15 := @C.wpe _ _ K122_15.eq_1
def K122_16 : Pl := .st (.act none (.px (some 13) (.mv (.v 24)))) .done
@[simp] def W122_16 := @Pl.wpe _ _ K122_16.eq_1
def K122_17 : C := .seq (.pl <| .st (.ext 24 1) <|
    .st (.act none (.ex (some 24) (.mkm))) K122_16) K122_15
@[simp] def W122_17 := @C.wpe _ _ K122_17.eq_1
def K122_18 : C := .pl <| .st (.ext 24 1) <|
    .st (.act none (.px (some 24) (.bin .add (.v 20) (.c (.int .i64 1))))) <|
    .st (.act none (.px (some 20) (.mv (.v 24)))) .done
@[simp] def W122_18 := @C.wpe _ _ K122_18.eq_1
def K122_19 : C := .pl <| .st (.ext 24 3) <|
    .st (.act none (.ld (some 24) (.v 11) none)) <|
    .st (.act none (.px (some 25) (.mv (.v 12)))) <|
    .st (.act none (.ex (some 26) (.callv (.v 24) [.v 25]))) .done
@[simp] def W122_19 := @C.wpe _ _ K122_19.eq_1
def K122_20 : C := .cond 24 (.v 28) K122_19 (.skip)
@[simp] def W122_20 := @C.wpe _ _ K122_20.eq_1
def K122_21 : C := .seq (.pl <| .st (.ext 24 5) <|
    .st (.act none (.ld (some 24) (.v 4) none)) <|
    .st (.act none (.px (some 25) (.mv (.v 12)))) <|
    .st (.act none (.px (some 26) (.ia 1 (.v 24) (.v 25)))) <|
    .st (.act none (.ld (some 27) (.v 26) none)) <|
    .st (.act none (.px (some 28) (.bin .eql (.v 27) (.c (.int .i64 0))))) .done) K122_20
@[simp] def W122_21 := @C.wpe _ _ K122_21.eq_1
def K122_22 : C := .seq (.block 3 (.seq (.pl <| .st (.ext 24 1) <|
    .st (.act none (.px (some 24) (.mv (.v 20)))) <|
    .st (.act none (.px (some 12) (.mv (.v 24)))) .done) K122_21)) K122_18
@[simp] def W122_22 := @C.wpe _ _ K122_22.eq_1
def K122_23 : C := .seq (.cond 24 (.v 24) (.skip) (.exit 2)) K122_22
@[simp] def W122_23 := @C.wpe _ _ K122_23.eq_1
def K122_24 : C := .seq (.pl <| .st (.ext 24 1) <|
    .st (.act none (.px (some 24) (.bin .lss (.v 20) (.v 19)))) .done) K122_23
@[simp] def W122_24 := @C.wpe _ _ K122_24.eq_1
def K122_25 : C := .block 2 (.loop 24 [0, 1, 2, 3, 5, 7, 8, 9, 10, 12, 13, 14, 15, 16, 17, 18, 21, 22, 23] K122_24)
@[simp] def W122_25 := @C.wpe _ _ K122_25.eq_1
def K122_26 : C := .seq (.seq (.pl <| .st (.ext 24 0) <|
    .st (.act none (.px (some 19) (.mv (.v 3)))) <|
    .st (.act none (.px (some 20) (.mv (.c (.int .i64 0))))) .done) K122_25) K122_17
@[simp] def W122_26 := @C.wpe _ _ K122_26.eq_1
def K122_27 : C := .seq (.pl <| .st (.ext 24 1) <|
    .st (.act none (.px (some 24) (.mkf (.func fn_impl_components_1) [] [.v 9, .v 4, .v 5, .v 8, .v 1, .v 11, .v 6, .v 10]))) <|
    .st (.act none (.ex none (.store 1 (.v 11) (.v 24)))) .done) K122_26
@[simp] def W122_27 := @C.wpe _ _ K122_27.eq_1
def K122_28 : C := .seq (.pl <| .st (.ext 24 0) <|
    .st (.act none (.ex (some 11) (.alloc (.c (.nilFunc))))) .done) K122_27
@[simp] def W122_28 := @C.wpe _ _ K122_28.eq_1
def K122_29 : Pl := .st (.act none (.ex none (.store 1 (.v 10) (.c (.int .i64 0))))) .done
@[simp] def W122_29 := @Pl.wpe _ _ K122_29.eq_1
def K122_30 : Pl := .st (.act none (.ex none (.store 1 (.v 9) (.c (.int .i64 0))))) K122_29
@[simp] def W122_30 := @Pl.wpe _ _ K122_30.eq_1
def K122_31 : Pl := .st (.act none (.ex (some 10) (.alloc (.c (.int .i64 0))))) K122_30
@[simp] def W122_31 := @Pl.wpe _ _ K122_31.eq_1
def K122_32 : C := .seq (.pl <| .st (.ext 24 0) <|
    .st (.act none (.ex (some 9) (.alloc (.c (.int .i64 0))))) K122_31) K122_28
@[simp] def W122_32 := @C.wpe _ _ K122_32.eq_1
def K122_33 : C := .seq (.pl <| .st (.ext 24 0) <|
    .st (.act none (.ex (some 8) (.alloc (.c (.slice none 0 0))))) .done) K122_32
@[simp] def W122_33 := @C.wpe _ _ K122_33.eq_1
def K122_34 : C := .pl <| .st (.ext 24 1) <|
    .st (.act none (.px (some 24) (.bin .add (.v 18) (.c (.int .i64 1))))) <|
    .st (.act none (.px (some 18) (.mv (.v 24)))) .done
@[simp] def W122_34 := @C.wpe _ _ K122_34.eq_1
def K122_35 : C := .pl <| .st (.ext 24 3) <|
    .st (.act none (.ld (some 24) (.v 6) none)) <|
    .st (.act none (.px (some 25) (.mv (.v 7)))) <|
    .st (.act none (.px (some 26) (.ia 1 (.v 24) (.v 25)))) <|
    .st (.act none (.ex none (.store 1 (.v 26) (.c (.int .i64 (-1)))))) .done
@[simp] def W122_35 := @C.wpe _ _ K122_35.eq_1
def K122_36 : C := .seq (.block 1 (.seq (.pl <| .st (.ext 24 1) <|
    .st (.act none (.px (some 24) (.mv (.v 18)))) <|
    .st (.act none (.px (some 7) (.mv (.v 24)))) .done) K122_35)) K122_34
@[simp] def W122_36 := @C.wpe _ _ K122_36.eq_1
def K122_37 : C := .seq (.cond 24 (.v 24) (.skip) (.exit 0)) K122_36
@[simp] def W122_37 := @C.wpe _ _ K122_37.eq_1
def K122_38 : C := .seq (.pl <| .st (.ext 24 1) <|
    .st (.act none (.px (some 24) (.bin .lss (.v 18) (.v 17)))) .done) K122_37
@[simp] def W122_38 := @C.wpe _ _ K122_38.eq_1
def K122_39 : C := .block 0 (.loop 24 [0, 2, 7, 8, 9, 10, 11, 12, 13, 14, 15, 16, 19, 20, 21, 22, 23] K122_38)
@[simp] def W122_39 := @C.wpe _ _ K122_39.eq_1
def K122_40 : C := .seq (.seq (.pl <| .st (.ext 24 1) <|
    .st (.act none (.ld (some 24) (.v 6) none)) <|
    .st (.act none (.px (some 17) (.lenV (.v 24)))) <|
    .st (.act none (.px (some 18) (.mv (.c (.int .i64 0))))) .done) K122_39) K122_33
@[simp] def W122_40 := @C.wpe _ _ K122_40.eq_1
def K122_41 : Pl := .st (.act none (.ex none (.store 1 (.v 6) (.v 29)))) .done
@[simp] def W122_41 := @Pl.wpe _ _ K122_41.eq_1
def K122_42 : Pl := .st (.act none (.ex none (.store 1 (.v 5) (.v 27)))) K122_41
@[simp] def W122_42 := @Pl.wpe _ _ K122_42.eq_1
def K122_43 : Pl := .st (.act none (.ex none (.store 1 (.v 4) (.v 25)))) K122_42
@[simp] def W122_43 := @Pl.wpe _ _ K122_43.eq_1
def K122_44 : Pl := .st (.act none (.ex (some 6) (.alloc (.c (.slice none 0 0))))) K122_43
@[simp] def W122_44 := @Pl.wpe _ _ K122_44.eq_1
def K122_45 : Pl := .st (.act none (.ex (some 5) (.alloc (.c (.slice none 0 0))))) K122_44
@[simp] def W122_45 := @Pl.wpe _ _ K122_45.eq_1
def K122_46 : Pl := .st (.act none (.ex (some 4) (.alloc (.c (.slice none 0 0))))) K122_45
@[simp] def W122_46 := @Pl.wpe _ _ K122_46.eq_1
def K122_47 : Pl := .st (.act none (.px (some 28) (.mv (.v 3)))) <|
    .st (.act none (.ex (some 29) (.mks 8 1 [.int .i64 0] (.v 28) (.v 28)))) K122_46
@[simp] def W122_47 := @Pl.wpe _ _ K122_47.eq_1
def K122_48 : Pl := .st (.act none (.px (some 26) (.mv (.v 3)))) <|
    .st (.act none (.ex (some 27) (.mks 8 1 [.int .i64 0] (.v 26) (.v 26)))) K122_47
@[simp] def W122_48 := @Pl.wpe _ _ K122_48.eq_1
def K122_49 : C := .seq (.pl <| .st (.ext 24 6) <|
    .st (.act none (.px (some 24) (.mv (.v 3)))) <|
    .st (.act none (.ex (some 25) (.mks 8 1 [.int .i64 0] (.v 24) (.v 24)))) K122_48) K122_40
@[simp] def W122_49 := @C.wpe _ _ K122_49.eq_1
def K122_50 : C := .seq (.pl <| .st (.ext 24 2) <|
    .st (.act none (.ld (some 24) (.v 1) none)) <|
    .st (.act none (.px (some 25) (.lenV (.v 24)))) <|
    .st (.act none (.px (some 3) (.mv (.v 25)))) .done) K122_49
@[simp] def W122_50 := @C.wpe _ _ K122_50.eq_1
def K122_51 : Pl := .st (.act none (.px (some 2) (.mv (.c (.slice none 0 0))))) .done
@[simp] def W122_51 := @Pl.wpe _ _ K122_51.eq_1
def B_impl_components : C := .seq (.pl <| .st (.ext 24 0) <|
    .st (.act none (.ex (some 1) (.alloc (.v 0)))) K122_51) K122_50
@[simp] def WB_impl_components := @C.wpe _ _ B_impl_components.eq_1
def R_impl_components : FIR := ⟨B_impl_components, 24, [(2, none)]⟩
theorem IR_impl_components : cfun Try.prog H_impl_components Try.f122 = some R_impl_components := by kernel_rfl
theorem EN_impl_components {args : List Value} {h : Heap} {k : Value → Heap → Prop} (hargs : args.length = 1) (hw : B_impl_components.wp Try.prog (retQ [(2, none)] k) (env0 args 24) h) : CallE Try.prog fn_impl_components args h k := enter Try.func122 rfl IR_impl_components hargs hw

def H_impl_components_1 : Hint := ⟨[(0, false), (1, false), (2, false), (3, false), (4, false), (5, false), (6, false), (7, false), (8, false), (11, false), (12, false), (30, false), (31, false), (32, false)], [[1, 5, 9, 10], [1, 2, 3, 5, 6, 9, 11, 12, 13]]⟩
def K143_1 : C := .pl <| .st (.ext 14 2) <|
    .st (.act none (.ld (some 14) (.v 8) none)) <|
    .st (.act none (.px (some 15) (.bin .add (.v 14) (.c (.int .i64 1))))) <|
    .st (.act none (.ex none (.store 1 (.v 8) (.v 15)))) .done
@[simp] def W143_1 := @C.wpe _ _ K143_1.eq_1
def K143_2 : C := .pl <| .st (.ext 14 4) <|
    .st (.act none (.ld (some 14) (.v 7) none)) <|
    .st (.act none (.px (some 15) (.mv (.v 10)))) <|
    .st (.act none (.ld (some 16) (.v 8) none)) <|
    .st (.act none (.px (some 17) (.ia 1 (.v 14) (.v 15)))) <|
    .st (.act none (.ex none (.store 1 (.v 17) (.v 16)))) .done
@[simp] def W143_2 := @C.wpe _ _ K143_2.eq_1
def K143_3 : C := .seq (.pl <| .st (.ext 14 5) <|
    .st (.act none (.ld (some 14) (.v 4) none)) <|
    .st (.act none (.ld (some 15) (.v 4) none)) <|
    .st (.act none (.px (some 16) (.lenV (.v 15)))) <|
    .st (.act none (.px (some 17) (.bin .sub (.v 16) (.c (.int .i64 1))))) <|
    .st (.act none (.px (some 18) (.sliceV 1 (.v 14) none (some (.v 17)) none))) <|
    .st (.act none (.ex none (.store 1 (.v 4) (.v 18)))) .done) K143_2
@[simp] def W143_3 := @C.wpe _ _ K143_3.eq_1
def K143_4 : C := .block 4 (.seq (.pl <| .st (.ext 14 6) <|
    .st (.act none (.ld (some 14) (.v 4) none)) <|
    .st (.act none (.ld (some 15) (.v 4) none)) <|
    .st (.act none (.px (some 16) (.lenV (.v 15)))) <|
    .st (.act none (.px (some 17) (.bin .sub (.v 16) (.c (.int .i64 1))))) <|
    .st (.act none (.px (some 18) (.ia 1 (.v 14) (.v 17)))) <|
    .st (.act none (.ld (some 19) (.v 18) none)) <|
    .st (.act none (.px (some 10) (.mv (.v 19)))) .done) K143_3)
@[simp] def W143_4 := @C.wpe _ _ K143_4.eq_1
def K143_5 : C := .cond 14 (.v 16) (.skip) (.exit 3)
@[simp] def W143_5 := @C.wpe _ _ K143_5.eq_1
def K143_6 : C := .seq (.seq (.pl <| .st (.ext 14 3) <|
    .st (.act none (.px (some 14) (.mv (.v 10)))) <|
    .st (.act none (.px (some 15) (.mv (.v 0)))) <|
    .st (.act none (.px (some 16) (.bin .neq (.v 14) (.v 15)))) .done) K143_5) K143_4
@[simp] def W143_6 := @C.wpe _ _ K143_6.eq_1
def K143_7 : C := .block 3 (.loop 14 [1, 2, 3, 5, 6, 9, 11, 12, 13] K143_6)
@[simp] def W143_7 := @C.wpe _ _ K143_7.eq_1
def K143_8 : C := .seq (.seq (.pl <| .st (.ext 14 0) <|
    .st (.act none (.px (some 10) (.mv (.c (.int .i64 (-1)))))) .done) K143_7) K143_1
@[simp] def W143_8 := @C.wpe _ _ K143_8.eq_1
def K143_9 : C := .cond 14 (.v 22) K143_8 (.skip)
@[simp] def W143_9 := @C.wpe _ _ K143_9.eq_1
def K143_10 : C := .seq (.pl <| .st (.ext 14 9) <|
    .st (.act none (.ld (some 14) (.v 3) none)) <|
    .st (.act none (.px (some 15) (.mv (.v 0)))) <|
    .st (.act none (.px (some 16) (.ia 1 (.v 14) (.v 15)))) <|
    .st (.act none (.ld (some 17) (.v 16) none)) <|
    .st (.act none (.ld (some 18) (.v 2) none)) <|
    .st (.act none (.px (some 19) (.mv (.v 0)))) <|
    .st (.act none (.px (some 20) (.ia 1 (.v 18) (.v 19)))) <|
    .st (.act none (.ld (some 21) (.v 20) none)) <|
    .st (.act none (.px (some 22) (.bin .eql (.v 17) (.v 21)))) .done) K143_9
@[simp] def W143_10 := @C.wpe _ _ K143_10.eq_1
def K143_11 : C := .pl <| .st (.ext 14 1) <|
    .st (.act none (.px (some 14) (.bin .add (.v 13) (.c (.int .i64 1))))) <|
    .st (.act none (.px (some 13) (.mv (.v 14)))) .done
@[simp] def W143_11 := @C.wpe _ _ K143_11.eq_1
def K143_12 : C := .pl <| .st (.ext 14 12) <|
    .st (.act none (.ld (some 14) (.v 3) none)) <|
    .st (.act none (.px (some 15) (.mv (.v 0)))) <|
    .st (.act none (.ld (some 16) (.v 3) none)) <|
    .st (.act none (.px (some 17) (.mv (.v 0)))) <|
    .st (.act none (.px (some 18) (.ia 1 (.v 16) (.v 17)))) <|
    .st (.act none (.ld (some 19) (.v 18) none)) <|
    .st (.act none (.ld (some 20) (.v 3) none)) <|
    .st (.act none (.px (some 21) (.mv (.v 9)))) <|
    .st (.act none (.px (some 22) (.ia 1 (.v 20) (.v 21)))) <|
    .st (.act none (.ld (some 23) (.v 22) none)) <|
    .st (.act none (.px (some 24) (.minI (.v 19) (.v 23)))) <|
    .st (.act none (.px (some 25) (.ia 1 (.v 14) (.v 15)))) <|
    .st (.act none (.ex none (.store 1 (.v 25) (.v 24)))) .done
@[simp] def W143_12 := @C.wpe _ _ K143_12.eq_1
def K143_13 : C := .seq (.pl <| .st (.ext 14 3) <|
    .st (.act none (.ld (some 14) (.v 6) none)) <|
    .st (.act none (.px (some 15) (.mv (.v 9)))) <|
    .st (.act none (.ex (some 16) (.callv (.v 14) [.v 15]))) .done) K143_12
@[simp] def W143_13 := @C.wpe _ _ K143_13.eq_1
def K143_14 : C := .pl <| .st (.ext 14 12) <|
    .st (.act none (.ld (some 14) (.v 3) none)) <|
    .st (.act none (.px (some 15) (.mv (.v 0)))) <|
    .st (.act none (.ld (some 16) (.v 3) none)) <|
    .st (.act none (.px (some 17) (.mv (.v 0)))) <|
    .st (.act none (.px (some 18) (.ia 1 (.v 16) (.v 17)))) <|
    .st (.act none (.ld (some 19) (.v 18) none)) <|
    .st (.act none (.ld (some 20) (.v 2) none)) <|
    .st (.act none (.px (some 21) (.mv (.v 9)))) <|
    .st (.act none (.px (some 22) (.ia 1 (.v 20) (.v 21)))) <|
    .st (.act none (.ld (some 23) (.v 22) none)) <|
    .st (.act none (.px (some 24) (.minI (.v 19) (.v 23)))) <|
    .st (.act none (.px (some 25) (.ia 1 (.v 14) (.v 15)))) <|
    .st (.act none (.ex none (.store 1 (.v 25) (.v 24)))) .done
@[simp] def W143_14 := @C.wpe _ _ K143_14.eq_1
def K143_15 : C := .cond 14 (.v 19) K143_14 (.skip)
@[simp] def W143_15 := @C.wpe _ _ K143_15.eq_1
def K143_16 : C := .seq (.pl <| .st (.ext 14 6) <|
    .st (.act none (.ld (some 14) (.v 7) none)) <|
    .st (.act none (.px (some 15) (.mv (.v 9)))) <|
    .st (.act none (.px (some 16) (.ia 1 (.v 14) (.v 15)))) <|
    .st (.act none (.ld (some 17) (.v 16) none)) <|
    .st (.act none (.px (some 18) (.bin .lss (.v 17) (.c (.int .i64 0))))) <|
    .st (.act none (.px (some 19) (.mv (.v 18)))) .done) K143_15
@[simp] def W143_16 := @C.wpe _ _ K143_16.eq_1
def K143_17 : C := .cond 14 (.v 19) K143_13 K143_16
@[simp] def W143_17 := @C.wpe _ _ K143_17.eq_1
def K143_18 : C := .block 2 (.seq (.pl <| .st (.ext 14 6) <|
    .st (.act none (.ld (some 14) (.v 2) none)) <|
    .st (.act none (.px (some 15) (.mv (.v 9)))) <|
    .st (.act none (.px (some 16) (.ia 1 (.v 14) (.v 15)))) <|
    .st (.act none (.ld (some 17) (.v 16) none)) <|
    .st (.act none (.px (some 18) (.bin .eql (.v 17) (.c (.int .i64 0))))) <|
    .st (.act none (.px (some 19) (.mv (.v 18)))) .done) K143_17)
@[simp] def W143_18 := @C.wpe _ _ K143_18.eq_1
def K143_19 : C := .seq (.block 1 (.seq (.pl <| .st (.ext 14 2) <|
    .st (.act none (.px (some 14) (.ia 1 (.v 11) (.v 13)))) <|
    .st (.act none (.ld (some 15) (.v 14) none)) <|
    .st (.act none (.px (some 9) (.mv (.v 15)))) .done) K143_18)) K143_11
@[simp] def W143_19 := @C.wpe _ _ K143_19.eq_1
def K143_20 : C := .seq (.cond 14 (.v 14) (.skip) (.exit 0)) K143_19
@[simp] def W143_20 := @C.wpe _ _ K143_20.eq_1
def K143_21 : C := .seq (.pl <| .st (.ext 14 1) <|
    .st (.act none (.px (some 14) (.bin .lss (.v 13) (.v 12)))) .done) K143_20
@[simp] def W143_21 := @C.wpe _ _ K143_21.eq_1
def K143_22 : C := .block 0 (.loop 14 [1, 5, 9, 10] K143_21)
@[simp] def W143_22 := @C.wpe _ _ K143_22.eq_1
def K143_23 : C := .seq (.seq (.pl <| .st (.ext 14 3) <|
    .st (.act none (.ld (some 14) (.v 5) none)) <|
    .st (.act none (.px (some 15) (.mv (.v 0)))) <|
    .st (.act none (.px (some 16) (.ia 1 (.v 14) (.v 15)))) <|
    .st (.act none (.ld (some 11) (.v 16) none)) <|
    .st (.act none (.px (some 12) (.lenV (.v 11)))) <|
    .st (.act none (.px (some 13) (.mv (.c (.int .i64 0))))) .done) K143_22) K143_10
@[simp] def W143_23 := @C.wpe _ _ K143_23.eq_1
def K143_24 : Pl := .st (.act none (.ex none (.store 1 (.v 4) (.v 17)))) .done
@[simp] def W143_24 := @Pl.wpe _ _ K143_24.eq_1
def K143_25 : C := .seq (.pl <| .st (.ext 14 4) <|
    .st (.act none (.ld (some 14) (.v 4) none)) <|
    .st (.act none (.px (some 15) (.mv (.v 0)))) <|
    .st (.act none (.psl 16 [.int .i64 0] [(0, 1, .v 15)])) <|
    .st (.act none (.ex (some 17) (.app 8 1 [.int .i64 0] (.o (.v 14)) (.p 1 16)))) K143_24) K143_23
@[simp] def W143_25 := @C.wpe _ _ K143_25.eq_1
def K143_26 : Pl := .st (.re 16 (.v 3) none none) <|
    .st (.re 19 (.v 1) none none) <|
    .st (.act none (.px (some 21) (.ia 1 (.v 16) (.v 17)))) <|
    .st (.act none (.ex none (.store 1 (.v 21) (.v 19)))) .done
@[simp] def W143_26 := @Pl.wpe _ _ K143_26.eq_1
def K143_27 : C := .seq (.pl <| .st (.ext 14 8) <|
    .st (.act none (.ld (some 14) (.v 2) none)) <|
    .st (.act none (.px (some 15) (.mv (.v 0)))) <|
    .st (.act none (.ld (some 16) (.v 3) none)) <|
    .st (.act none (.px (some 17) (.mv (.v 0)))) <|
    .st (.act none (.ld (some 18) (.v 1) none)) <|
    .st (.act none (.ld (some 19) (.v 1) none)) <|
    .st (.act none (.px (some 20) (.ia 1 (.v 14) (.v 15)))) <|
    .st (.act none (.ex none (.store 1 (.v 20) (.v 18)))) K143_26) K143_25
@[simp] def W143_27 := @C.wpe _ _ K143_27.eq_1
def B_impl_components_1 : C := .seq (.pl <| .st (.ext 14 2) <|
    .st (.act none (.ld (some 14) (.v 1) none)) <|
    .st (.act none (.px (some 15) (.bin .add (.v 14) (.c (.int .i64 1))))) <|
    .st (.act none (.ex none (.store 1 (.v 1) (.v 15)))) .done) K143_27
@[simp] def WB_impl_components_1 := @C.wpe _ _ B_impl_components_1.eq_1
def R_impl_components_1 : FIR := ⟨B_impl_components_1, 14, []⟩
theorem IR_impl_components_1 : cfun Try.prog H_impl_components_1 Try.f143 = some R_impl_components_1 := by kernel_rfl
theorem EN_impl_components_1 {args : List Value} {h : Heap} {k : Value → Heap → Prop} (hargs : args.length = 9) (hw : B_impl_components_1.wp Try.prog (retQ [] k) (env0 args 14) h) : CallE Try.prog fn_impl_components_1 args h k := enter Try.func143 rfl IR_impl_components_1 hargs hw

def H_impl_cyclic : Hint := ⟨[(0, false), (2, false), (3, false), (4, false), (6, false), (7, false), (8, false), (14, false), (15, false), (16, false), (31, false), (32, false)], [[1, 4, 5, 6, 10, 11], [1, 4, 6, 7, 8, 9]]⟩
def K101_1 : C := .seq (.pl <| .st (.ext 12 1) <|
    .st (.act none (.px (some 12) (.mv (.v 5)))) <|
    .st (.act none (.px (some 1) (.mv (.v 12)))) .done) (.ret)
@[simp] def W101_1 := @C.wpe _ _ K101_1.eq_1
def K101_2 : C := .pl <| .st (.ext 12 1) <|
    .st (.act none (.px (some 12) (.bin .add (.v 11) (.c (.int .i64 1))))) <|
    .st (.act none (.px (some 11) (.mv (.v 12)))) .done
@[simp] def W101_2 := @C.wpe _ _ K101_2.eq_1
def K101_3 : Pl := .st (.act none (.px (some 29) (.pick (.v 22) (.c (.bool true)) (.v 28)))) <|
    .st (.act none (.px (some 30) (.ia 1 (.v 12) (.v 13)))) <|
    .st (.act none (.ex none (.store 1 (.v 30) (.v 29)))) .done
@[simp] def W101_3 := @Pl.wpe _ _ K101_3.eq_1
def K101_4 : C := .pl <| .st (.ext 12 19) <|
    .st (.act none (.px (some 12) (.mv (.v 5)))) <|
    .st (.act none (.px (some 13) (.mv (.v 6)))) <|
    .st (.act none (.px (some 14) (.mv (.v 3)))) <|
    .st (.act none (.px (some 15) (.mv (.v 2)))) <|
    .st (.act none (.px (some 16) (.mv (.v 6)))) <|
    .st (.act none (.px (some 17) (.ia 1 (.v 15) (.v 16)))) <|
    .st (.act none (.ld (some 18) (.v 17) none)) <|
    .st (.act none (.px (some 19) (.ia 1 (.v 14) (.v 18)))) <|
    .st (.act none (.ld (some 20) (.v 19) none)) <|
    .st (.act none (.px (some 21) (.bin .gtr (.v 20) (.c (.int .i64 1))))) <|
    .st (.act none (.px (some 22) (.mv (.v 21)))) <|
    .st (.act (some (.v 22, false)) (.px (some 23) (.mv (.v 0)))) <|
    .st (.act (some (.v 22, false)) (.px (some 24) (.mv (.v 6)))) <|
    .st (.act (some (.v 22, false)) (.px (some 25) (.ia 1 (.v 23) (.v 24)))) <|
    .st (.act (some (.v 22, false)) (.ld (some 26) (.v 25) none)) <|
    .st (.act (some (.v 22, false)) (.px (some 27) (.mv (.v 6)))) <|
    .st (.act (some (.v 22, false)) (.ex (some 28) (.call fn_slices_Contains_S_int_int [.v 26, .v 27]))) K101_3
@[simp] def W101_4 := @C.wpe _ _ K101_4.eq_1
def K101_5 : C := .seq (.block 3 (.seq (.pl <| .st (.ext 12 1) <|
    .st (.act none (.px (some 12) (.mv (.v 11)))) <|
    .st (.act none (.px (some 6) (.mv (.v 12)))) .done) K101_4)) K101_2
@[simp] def W101_5 := @C.wpe _ _ K101_5.eq_1
def K101_6 : C := .seq (.cond 12 (.v 12) (.skip) (.exit 2)) K101_5
@[simp] def W101_6 := @C.wpe _ _ K101_6.eq_1
def K101_7 : C := .seq (.pl <| .st (.ext 12 1) <|
    .st (.act none (.px (some 12) (.bin .lss (.v 11) (.v 10)))) .done) K101_6
@[simp] def W101_7 := @C.wpe _ _ K101_7.eq_1
def K101_8 : C := .block 2 (.loop 12 [1, 4, 6, 7, 8, 9] K101_7)
@[simp] def W101_8 := @C.wpe _ _ K101_8.eq_1
def K101_9 : C := .seq (.seq (.pl <| .st (.ext 12 1) <|
    .st (.act none (.px (some 12) (.mv (.v 0)))) <|
    .st (.act none (.px (some 10) (.lenV (.v 12)))) <|
    .st (.act none (.px (some 11) (.mv (.c (.int .i64 0))))) .done) K101_8) K101_1
@[simp] def W101_9 := @C.wpe _ _ K101_9.eq_1
def K101_10 : Pl := .st (.act none (.px (some 5) (.mv (.v 14)))) .done
@[simp] def W101_10 := @Pl.wpe _ _ K101_10.eq_1
def K101_11 : C := .seq (.pl <| .st (.ext 12 3) <|
    .st (.act none (.px (some 12) (.mv (.v 0)))) <|
    .st (.act none (.px (some 13) (.lenV (.v 12)))) <|
    .st (.act none (.ex (some 14) (.mks 1 1 [.bool false] (.v 13) (.v 13)))) K101_10) K101_9
@[simp] def W101_11 := @C.wpe _ _ K101_11.eq_1
def K101_12 : C := .pl <| .st (.ext 12 1) <|
    .st (.act none (.px (some 12) (.bin .add (.v 9) (.c (.int .i64 1))))) <|
    .st (.act none (.px (some 9) (.mv (.v 12)))) .done
@[simp] def W101_12 := @C.wpe _ _ K101_12.eq_1
def K101_13 : C := .pl <| .st (.ext 12 6) <|
    .st (.act none (.px (some 12) (.mv (.v 3)))) <|
    .st (.act none (.px (some 13) (.mv (.v 4)))) <|
    .st (.act none (.px (some 14) (.ia 1 (.v 12) (.v 13)))) <|
    .st (.act none (.ld (some 15) (.v 14) none)) <|
    .st (.act none (.px (some 16) (.bin .add (.v 15) (.c (.int .i64 1))))) <|
    .st (.act none (.px (some 17) (.ia 1 (.v 12) (.v 13)))) <|
    .st (.act none (.ex none (.store 1 (.v 17) (.v 16)))) .done
@[simp] def W101_13 := @C.wpe _ _ K101_13.eq_1
def K101_14 : C := .seq (.block 1 (.seq (.pl <| .st (.ext 12 2) <|
    .st (.act none (.px (some 12) (.ia 1 (.v 7) (.v 9)))) <|
    .st (.act none (.ld (some 13) (.v 12) none)) <|
    .st (.act none (.px (some 4) (.mv (.v 13)))) .done) K101_13)) K101_12
@[simp] def W101_14 := @C.wpe _ _ K101_14.eq_1
def K101_15 : C := .seq (.cond 12 (.v 12) (.skip) (.exit 0)) K101_14
@[simp] def W101_15 := @C.wpe _ _ K101_15.eq_1
def K101_16 : C := .seq (.pl <| .st (.ext 12 1) <|
    .st (.act none (.px (some 12) (.bin .lss (.v 9) (.v 8)))) .done) K101_15
@[simp] def W101_16 := @C.wpe _ _ K101_16.eq_1
def K101_17 : C := .block 0 (.loop 12 [1, 4, 5, 6, 10, 11] K101_16)
@[simp] def W101_17 := @C.wpe _ _ K101_17.eq_1
def K101_18 : C := .seq (.seq (.pl <| .st (.ext 12 0) <|
    .st (.act none (.px (some 7) (.mv (.v 2)))) <|
    .st (.act none (.px (some 8) (.lenV (.v 7)))) <|
    .st (.act none (.px (some 9) (.mv (.c (.int .i64 0))))) .done) K101_17) K101_11
@[simp] def W101_18 := @C.wpe _ _ K101_18.eq_1
def K101_19 : Pl := .st (.act none (.px (some 3) (.mv (.v 14)))) .done
@[simp] def W101_19 := @Pl.wpe _ _ K101_19.eq_1
def K101_20 : C := .seq (.pl <| .st (.ext 12 3) <|
    .st (.act none (.px (some 12) (.mv (.v 0)))) <|
    .st (.act none (.px (some 13) (.lenV (.v 12)))) <|
    .st (.act none (.ex (some 14) (.mks 8 1 [.int .i64 0] (.v 13) (.v 13)))) K101_19) K101_18
@[simp] def W101_20 := @C.wpe _ _ K101_20.eq_1
def K101_21 : Pl := .st (.act none (.px (some 2) (.mv (.v 13)))) .done
@[simp] def W101_21 := @Pl.wpe _ _ K101_21.eq_1
def K101_22 : C := .seq (.pl <| .st (.ext 12 2) <|
    .st (.act none (.px (some 12) (.mv (.v 0)))) <|
    .st (.act none (.ex (some 13) (.call fn_impl_components [.v 12]))) K101_21) K101_20
@[simp] def W101_22 := @C.wpe _ _ K101_22.eq_1
def B_impl_cyclic : C := .seq (.pl <| .st (.ext 12 0) <|
    .st (.act none (.px (some 1) (.mv (.c (.slice none 0 0))))) .done) K101_22
@[simp] def WB_impl_cyclic := @C.wpe _ _ B_impl_cyclic.eq_1
def R_impl_cyclic : FIR := ⟨B_impl_cyclic, 12, [(1, none)]⟩
theorem IR_impl_cyclic : cfun Try.prog H_impl_cyclic Try.f101 = some R_impl_cyclic := by kernel_rfl
theorem EN_impl_cyclic {args : List Value} {h : Heap} {k : Value → Heap → Prop} (hargs : args.length = 1) (hw : B_impl_cyclic.wp Try.prog (retQ [(1, none)] k) (env0 args 12) h) : CallE Try.prog fn_impl_cyclic args h k := enter Try.func101 rfl IR_impl_cyclic hargs hw

def H_impl_grouped : Hint := ⟨[(0, false), (1, false), (4, false), (5, false), (6, false), (7, false), (8, false), (12, false), (13, false), (20, false), (21, false)], [[0, 2, 5, 6, 9, 10], [0, 2, 6]]⟩
def K83_1 : C := .seq (.pl <| .st (.ext 11 1) <|
    .st (.act none (.px (some 11) (.mv (.v 3)))) <|
    .st (.act none (.px (some 2) (.mv (.v 11)))) .done) (.ret)
@[simp] def W83_1 := @C.wpe _ _ K83_1.eq_1
def K83_2 : C := .pl <| .st (.ext 11 1) <|
    .st (.act none (.px (some 11) (.bin .add (.v 8) (.c (.int .i64 1))))) <|
    .st (.act none (.px (some 8) (.mv (.v 11)))) .done
@[simp] def W83_2 := @C.wpe _ _ K83_2.eq_1
def K83_3 : C := .pl <| .st (.ext 11 2) <|
    .st (.act none (.px (some 11) (.mv (.v 4)))) <|
    .st (.act none (.px (some 12) (.bin .add (.v 11) (.c (.int .i64 1))))) <|
    .st (.act none (.px (some 4) (.mv (.v 12)))) .done
@[simp] def W83_3 := @C.wpe _ _ K83_3.eq_1
def K83_4 : C := .cond 11 (.v 16) K83_3 (.skip)
@[simp] def W83_4 := @C.wpe _ _ K83_4.eq_1
def K83_5 : C := .seq (.pl <| .st (.ext 11 6) <|
    .st (.act none (.px (some 11) (.mv (.v 3)))) <|
    .st (.act none (.px (some 12) (.mv (.v 5)))) <|
    .st (.act none (.px (some 13) (.ia 1 (.v 11) (.v 12)))) <|
    .st (.act none (.ld (some 14) (.v 13) none)) <|
    .st (.act none (.px (some 15) (.mv (.v 4)))) <|
    .st (.act none (.px (some 16) (.bin .eql (.v 14) (.v 15)))) .done) K83_4
@[simp] def W83_5 := @C.wpe _ _ K83_5.eq_1
def K83_6 : C := .pl <| .st (.ext 11 1) <|
    .st (.act none (.px (some 11) (.bin .add (.v 10) (.c (.int .i64 1))))) <|
    .st (.act none (.px (some 10) (.mv (.v 11)))) .done
@[simp] def W83_6 := @C.wpe _ _ K83_6.eq_1
def K83_7 : C := .seq (.pl <| .st (.ext 11 7) <|
    .st (.act none (.px (some 11) (.mv (.v 3)))) <|
    .st (.act none (.px (some 12) (.mv (.v 5)))) <|
    .st (.act none (.px (some 13) (.mv (.v 3)))) <|
    .st (.act none (.px (some 14) (.mv (.v 6)))) <|
    .st (.act none (.px (some 15) (.ia 1 (.v 13) (.v 14)))) <|
    .st (.act none (.ld (some 16) (.v 15) none)) <|
    .st (.act none (.px (some 17) (.ia 1 (.v 11) (.v 12)))) <|
    .st (.act none (.ex none (.store 1 (.v 17) (.v 16)))) .done) (.exit 2)
@[simp] def W83_7 := @C.wpe _ _ K83_7.eq_1
def K83_8 : C := .cond 11 (.v 14) K83_7 (.skip)
@[simp] def W83_8 := @C.wpe _ _ K83_8.eq_1
def K83_9 : C := .seq (.pl <| .st (.ext 11 4) <|
    .st (.act none (.px (some 11) (.mv (.v 1)))) <|
    .st (.act none (.px (some 12) (.mv (.v 5)))) <|
    .st (.act none (.px (some 13) (.mv (.v 6)))) <|
    .st (.act none (.ex (some 14) (.callv (.v 11) [.v 12, .v 13]))) .done) K83_8
@[simp] def W83_9 := @C.wpe _ _ K83_9.eq_1
def K83_10 : C := .seq (.block 3 (.seq (.pl <| .st (.ext 11 1) <|
    .st (.act none (.px (some 11) (.mv (.v 10)))) <|
    .st (.act none (.px (some 6) (.mv (.v 11)))) .done) K83_9)) K83_6
@[simp] def W83_10 := @C.wpe _ _ K83_10.eq_1
def K83_11 : C := .seq (.cond 11 (.v 11) (.skip) (.exit 2)) K83_10
@[simp] def W83_11 := @C.wpe _ _ K83_11.eq_1
def K83_12 : C := .seq (.pl <| .st (.ext 11 1) <|
    .st (.act none (.px (some 11) (.bin .lss (.v 10) (.v 9)))) .done) K83_11
@[simp] def W83_12 := @C.wpe _ _ K83_12.eq_1
def K83_13 : C := .block 2 (.loop 11 [0, 2, 6] K83_12)
@[simp] def W83_13 := @C.wpe _ _ K83_13.eq_1
def K83_14 : C := .seq (.seq (.pl <| .st (.ext 11 0) <|
    .st (.act none (.px (some 9) (.mv (.v 5)))) <|
    .st (.act none (.px (some 10) (.mv (.c (.int .i64 0))))) .done) K83_13) K83_5
@[simp] def W83_14 := @C.wpe _ _ K83_14.eq_1
def K83_15 : C := .seq (.pl <| .st (.ext 11 4) <|
    .st (.act none (.px (some 11) (.mv (.v 3)))) <|
    .st (.act none (.px (some 12) (.mv (.v 5)))) <|
    .st (.act none (.px (some 13) (.mv (.v 4)))) <|
    .st (.act none (.px (some 14) (.ia 1 (.v 11) (.v 12)))) <|
    .st (.act none (.ex none (.store 1 (.v 14) (.v 13)))) .done) K83_14
@[simp] def W83_15 := @C.wpe _ _ K83_15.eq_1
def K83_16 : C := .seq (.block 1 (.seq (.pl <| .st (.ext 11 1) <|
    .st (.act none (.px (some 11) (.mv (.v 8)))) <|
    .st (.act none (.px (some 5) (.mv (.v 11)))) .done) K83_15)) K83_2
@[simp] def W83_16 := @C.wpe _ _ K83_16.eq_1
def K83_17 : C := .seq (.cond 11 (.v 11) (.skip) (.exit 0)) K83_16
@[simp] def W83_17 := @C.wpe _ _ K83_17.eq_1
def K83_18 : C := .seq (.pl <| .st (.ext 11 1) <|
    .st (.act none (.px (some 11) (.bin .lss (.v 8) (.v 7)))) .done) K83_17
@[simp] def W83_18 := @C.wpe _ _ K83_18.eq_1
def K83_19 : C := .block 0 (.loop 11 [0, 2, 5, 6, 9, 10] K83_18)
@[simp] def W83_19 := @C.wpe _ _ K83_19.eq_1
def K83_20 : C := .seq (.seq (.pl <| .st (.ext 11 1) <|
    .st (.act none (.px (some 11) (.mv (.v 3)))) <|
    .st (.act none (.px (some 7) (.lenV (.v 11)))) <|
    .st (.act none (.px (some 8) (.mv (.c (.int .i64 0))))) .done) K83_19) K83_1
@[simp] def W83_20 := @C.wpe _ _ K83_20.eq_1
def K83_21 : C := .seq (.pl <| .st (.ext 11 0) <|
    .st (.act none (.px (some 4) (.mv (.c (.int .i64 0))))) .done) K83_20
@[simp] def W83_21 := @C.wpe _ _ K83_21.eq_1
def K83_22 : Pl := .st (.act none (.px (some 3) (.mv (.v 12)))) .done
@[simp] def W83_22 := @Pl.wpe _ _ K83_22.eq_1
def K83_23 : C := .seq (.pl <| .st (.ext 11 2) <|
    .st (.act none (.px (some 11) (.mv (.v 0)))) <|
    .st (.act none (.ex (some 12) (.mks 8 1 [.int .i64 0] (.v 11) (.v 11)))) K83_22) K83_21
@[simp] def W83_23 := @C.wpe _ _ K83_23.eq_1
def B_impl_grouped : C := .seq (.pl <| .st (.ext 11 0) <|
    .st (.act none (.px (some 2) (.mv (.c (.slice none 0 0))))) .done) K83_23
@[simp] def WB_impl_grouped := @C.wpe _ _ B_impl_grouped.eq_1
def R_impl_grouped : FIR := ⟨B_impl_grouped, 11, [(2, none)]⟩
theorem IR_impl_grouped : cfun Try.prog H_impl_grouped Try.f83 = some R_impl_grouped := by kernel_rfl
theorem EN_impl_grouped {args : List Value} {h : Heap} {k : Value → Heap → Prop} (hargs : args.length = 2) (hw : B_impl_grouped.wp Try.prog (retQ [(2, none)] k) (env0 args 11) h) : CallE Try.prog fn_impl_grouped args h k := enter Try.func83 rfl IR_impl_grouped hargs hw

def H_impl_in : Hint := ⟨[(0, false), (1, false), (2, false), (6, false)], []⟩
def K65_1 : C := .seq (.pl <| .st (.ext 4 8) <|
    .st (.act none (.px (some 4) (.mv (.v 0)))) <|
    .st (.act none (.px (some 5) (.mv (.v 1)))) <|
    .st (.act none (.px (some 6) (.bin .geq (.v 4) (.v 5)))) <|
    .st (.act none (.px (some 7) (.mv (.v 6)))) <|
    .st (.act (some (.v 7, true)) (.px (some 8) (.mv (.v 0)))) <|
    .st (.act (some (.v 7, true)) (.px (some 9) (.mv (.v 2)))) <|
    .st (.act (some (.v 7, true)) (.px (some 10) (.bin .leq (.v 8) (.v 9)))) <|
    .st (.act none (.px (some 11) (.pick (.v 7) (.v 10) (.c (.bool false))))) <|
    .st (.act none (.px (some 3) (.mv (.v 11)))) .done) (.ret)
@[simp] def W65_1 := @C.wpe _ _ K65_1.eq_1
def B_impl_in : C := .seq (.pl <| .st (.ext 4 0) <|
    .st (.act none (.px (some 3) (.mv (.c (.bool false))))) .done) K65_1
@[simp] def WB_impl_in := @C.wpe _ _ B_impl_in.eq_1
def R_impl_in : FIR := ⟨B_impl_in, 4, [(3, none)]⟩
theorem IR_impl_in : cfun Try.prog H_impl_in Try.f65 = some R_impl_in := by kernel_rfl
theorem EN_impl_in {args : List Value} {h : Heap} {k : Value → Heap → Prop} (hargs : args.length = 3) (hw : B_impl_in.wp Try.prog (retQ [(3, none)] k) (env0 args 4) h) : CallE Try.prog fn_impl_in args h k := enter Try.func65 rfl IR_impl_in hargs hw

def H_impl_lasso : Hint := ⟨[(0, false), (1, false), (2, false), (6, false), (7, false), (8, false), (9, false), (11, false), (12, false), (17, false), (18, false), (19, false)], [[3, 4, 5, 7, 8]]⟩
def K93_1 : C := .seq (.pl <| .st (.ext 12 0) <|
    .st (.act none (.px (some 3) (.mv (.c (.slice none 0 0))))) <|
    .st (.act none (.px (some 4) (.mv (.c (.slice none 0 0))))) <|
    .st (.act none (.px (some 5) (.mv (.c (.bool false))))) .done) (.ret)
@[simp] def W93_1 := @C.wpe _ _ K93_1.eq_1
def K93_2 : C := .pl <| .st (.ext 12 1) <|
    .st (.act none (.px (some 12) (.bin .add (.v 11) (.c (.int .i64 1))))) <|
    .st (.act none (.px (some 11) (.mv (.v 12)))) .done
@[simp] def W93_2 := @C.wpe _ _ K93_2.eq_1
def K93_3 : Pl := .st (.act none (.px (some 3) (.mv (.v 16)))) <|
    .st (.act none (.px (some 4) (.mv (.v 19)))) <|
    .st (.act none (.px (some 5) (.mv (.c (.bool true))))) .done
@[simp] def W93_3 := @Pl.wpe _ _ K93_3.eq_1
def K93_4 : C := .seq (.pl <| .st (.ext 12 8) <|
    .st (.act none (.px (some 12) (.mv (.v 8)))) <|
    .st (.act none (.px (some 13) (.mv (.v 8)))) <|
    .st (.act none (.px (some 14) (.lenV (.v 13)))) <|
    .st (.act none (.px (some 15) (.bin .sub (.v 14) (.c (.int .i64 1))))) <|
    .st (.act none (.px (some 16) (.sliceV 1 (.v 12) none (some (.v 15)) none))) <|
    .st (.act none (.px (some 17) (.mv (.v 0)))) <|
    .st (.act none (.ld (some 18) (.v 7) none)) <|
    .st (.act none (.ex (some 19) (.call fn_impl_around [.v 17, .v 18]))) K93_3) (.ret)
@[simp] def W93_4 := @C.wpe _ _ K93_4.eq_1
def K93_5 : Pl := .st (.act none (.px (some 8) (.mv (.v 15)))) .done
@[simp] def W93_5 := @Pl.wpe _ _ K93_5.eq_1
def K93_6 : C := .seq (.pl <| .st (.ext 12 4) <|
    .st (.act none (.px (some 12) (.mv (.v 0)))) <|
    .st (.act none (.px (some 13) (.mv (.v 1)))) <|
    .st (.act none (.px (some 14) (.mkf (.func fn_impl_lasso_1) [] [.v 7]))) <|
    .st (.act none (.ex (some 15) (.call fn_impl_shortest [.v 12, .v 13, .v 14]))) K93_5) K93_4
@[simp] def W93_6 := @C.wpe _ _ K93_6.eq_1
def K93_7 : C := .cond 12 (.v 20) K93_6 (.skip)
@[simp] def W93_7 := @C.wpe _ _ K93_7.eq_1
def K93_8 : Pl := .st (.act none (.px (some 15) (.mv (.v 14)))) <|
    .st (.act (some (.v 15, true)) (.px (some 16) (.mv (.v 6)))) <|
    .st (.act (some (.v 15, true)) (.ld (some 17) (.v 7) none)) <|
    .st (.act (some (.v 15, true)) (.px (some 18) (.ia 1 (.v 16) (.v 17)))) <|
    .st (.act (some (.v 15, true)) (.ld (some 19) (.v 18) none)) <|
    .st (.act none (.px (some 20) (.pick (.v 15) (.v 19) (.c (.bool false))))) .done
@[simp] def W93_8 := @Pl.wpe _ _ K93_8.eq_1
def K93_9 : C := .seq (.pl <| .st (.ext 12 9) <|
    .st (.act none (.px (some 12) (.mv (.v 2)))) <|
    .st (.act none (.ld (some 13) (.v 7) none)) <|
    .st (.act none (.ex (some 14) (.callv (.v 12) [.v 13]))) K93_8) K93_7
@[simp] def W93_9 := @C.wpe _ _ K93_9.eq_1
def K93_10 : Pl := .st (.act none (.ex none (.store 1 (.v 7) (.v 13)))) .done
@[simp] def W93_10 := @Pl.wpe _ _ K93_10.eq_1
def K93_11 : C := .seq (.block 1 (.seq (.pl <| .st (.ext 12 2) <|
    .st (.act none (.px (some 12) (.ia 1 (.v 9) (.v 11)))) <|
    .st (.act none (.ld (some 13) (.v 12) none)) <|
    .st (.act none (.ex (some 7) (.alloc (.c (.int .i64 0))))) K93_10) K93_9)) K93_2
@[simp] def W93_11 := @C.wpe _ _ K93_11.eq_1
def K93_12 : C := .seq (.cond 12 (.v 12) (.skip) (.exit 0)) K93_11
@[simp] def W93_12 := @C.wpe _ _ K93_12.eq_1
def K93_13 : C := .seq (.pl <| .st (.ext 12 1) <|
    .st (.act none (.px (some 12) (.bin .lss (.v 11) (.v 10)))) .done) K93_12
@[simp] def W93_13 := @C.wpe _ _ K93_13.eq_1
def K93_14 : C := .block 0 (.loop 12 [3, 4, 5, 7, 8] K93_13)
@[simp] def W93_14 := @C.wpe _ _ K93_14.eq_1
def K93_15 : Pl := .st (.act none (.px (some 10) (.lenV (.v 9)))) <|
    .st (.act none (.px (some 11) (.mv (.c (.int .i64 0))))) .done
@[simp] def W93_15 := @Pl.wpe _ _ K93_15.eq_1
def K93_16 : C := .seq (.seq (.pl <| .st (.ext 12 2) <|
    .st (.act none (.px (some 12) (.mv (.v 0)))) <|
    .st (.act none (.px (some 13) (.mv (.v 1)))) <|
    .st (.act none (.ex (some 9) (.call fn_impl_order [.v 12, .v 13]))) K93_15) K93_14) K93_1
@[simp] def W93_16 := @C.wpe _ _ K93_16.eq_1
def K93_17 : Pl := .st (.act none (.px (some 6) (.mv (.v 13)))) .done
@[simp] def W93_17 := @Pl.wpe _ _ K93_17.eq_1
def K93_18 : C := .seq (.pl <| .st (.ext 12 2) <|
    .st (.act none (.px (some 12) (.mv (.v 0)))) <|
    .st (.act none (.ex (some 13) (.call fn_impl_cyclic [.v 12]))) K93_17) K93_16
@[simp] def W93_18 := @C.wpe _ _ K93_18.eq_1
def B_impl_lasso : C := .seq (.pl <| .st (.ext 12 0) <|
    .st (.act none (.px (some 3) (.mv (.c (.slice none 0 0))))) <|
    .st (.act none (.px (some 4) (.mv (.c (.slice none 0 0))))) <|
    .st (.act none (.px (some 5) (.mv (.c (.bool false))))) .done) K93_18
@[simp] def WB_impl_lasso := @C.wpe _ _ B_impl_lasso.eq_1
def R_impl_lasso : FIR := ⟨B_impl_lasso, 12, [(3, none), (4, none), (5, none)]⟩
theorem IR_impl_lasso : cfun Try.prog H_impl_lasso Try.f93 = some R_impl_lasso := by kernel_rfl
theorem EN_impl_lasso {args : List Value} {h : Heap} {k : Value → Heap → Prop} (hargs : args.length = 3) (hw : B_impl_lasso.wp Try.prog (retQ [(3, none), (4, none), (5, none)] k) (env0 args 12) h) : CallE Try.prog fn_impl_lasso args h k := enter Try.func93 rfl IR_impl_lasso hargs hw

def H_impl_lasso_1 : Hint := ⟨[(0, false), (1, false), (3, false)], []⟩
def K118_1 : C := .seq (.pl <| .st (.ext 3 3) <|
    .st (.act none (.px (some 3) (.mv (.v 0)))) <|
    .st (.act none (.ld (some 4) (.v 1) none)) <|
    .st (.act none (.px (some 5) (.bin .eql (.v 3) (.v 4)))) <|
    .st (.act none (.px (some 2) (.mv (.v 5)))) .done) (.ret)
@[simp] def W118_1 := @C.wpe _ _ K118_1.eq_1
def B_impl_lasso_1 : C := .seq (.pl <| .st (.ext 3 0) <|
    .st (.act none (.px (some 2) (.mv (.c (.bool false))))) .done) K118_1
@[simp] def WB_impl_lasso_1 := @C.wpe _ _ B_impl_lasso_1.eq_1
def R_impl_lasso_1 : FIR := ⟨B_impl_lasso_1, 3, [(2, none)]⟩
theorem IR_impl_lasso_1 : cfun Try.prog H_impl_lasso_1 Try.f118 = some R_impl_lasso_1 := by kernel_rfl
theorem EN_impl_lasso_1 {args : List Value} {h : Heap} {k : Value → Heap → Prop} (hargs : args.length = 2) (hw : B_impl_lasso_1.wp Try.prog (retQ [(2, none)] k) (env0 args 3) h) : CallE Try.prog fn_impl_lasso_1 args h k := enter Try.func118 rfl IR_impl_lasso_1 hargs hw

def H_impl_letters : Hint := ⟨[(0, false), (2, false)], []⟩
def K76_1 : Pl := .st (.act none (.px (some 4) (.un .not (.v 3)))) <|
    .st (.act none (.px (some 1) (.mv (.v 4)))) .done
@[simp] def W76_1 := @Pl.wpe _ _ K76_1.eq_1
def K76_2 : C := .seq (.pl <| .st (.ext 2 3) <|
    .st (.act none (.px (some 2) (.mv (.v 0)))) <|
    .st (.act none (.ex (some 3) (.call fn_slices_ContainsFunc_S_int_int [.v 2, .c (.func (.func 106) #[] #[])]))) K76_1) (.ret)
@[simp] def W76_2 := @C.wpe _ _ K76_2.eq_1
def B_impl_letters : C := .seq (.pl <| .st (.ext 2 0) <|
    .st (.act none (.px (some 1) (.mv (.c (.bool false))))) .done) K76_2
@[simp] def WB_impl_letters := @C.wpe _ _ B_impl_letters.eq_1
def R_impl_letters : FIR := ⟨B_impl_letters, 2, [(1, none)]⟩
theorem IR_impl_letters : cfun Try.prog H_impl_letters Try.f76 = some R_impl_letters := by kernel_rfl
theorem EN_impl_letters {args : List Value} {h : Heap} {k : Value → Heap → Prop} (hargs : args.length = 1) (hw : B_impl_letters.wp Try.prog (retQ [(1, none)] k) (env0 args 2) h) : CallE Try.prog fn_impl_letters args h k := enter Try.func76 rfl IR_impl_letters hargs hw

def H_impl_letters_1 : Hint := ⟨[(0, false), (2, false)], []⟩
def K106_1 : Pl := .st (.act none (.px (some 4) (.un .not (.v 3)))) <|
    .st (.act none (.px (some 1) (.mv (.v 4)))) .done
@[simp] def W106_1 := @Pl.wpe _ _ K106_1.eq_1
def K106_2 : C := .seq (.pl <| .st (.ext 2 3) <|
    .st (.act none (.px (some 2) (.mv (.v 0)))) <|
    .st (.act none (.ex (some 3) (.call fn_impl_in [.v 2, .c (.int .i64 0), .c (.int .i64 7)]))) K106_1) (.ret)
@[simp] def W106_2 := @C.wpe _ _ K106_2.eq_1
def B_impl_letters_1 : C := .seq (.pl <| .st (.ext 2 0) <|
    .st (.act none (.px (some 1) (.mv (.c (.bool false))))) .done) K106_2
@[simp] def WB_impl_letters_1 := @C.wpe _ _ B_impl_letters_1.eq_1
def R_impl_letters_1 : FIR := ⟨B_impl_letters_1, 2, [(1, none)]⟩
theorem IR_impl_letters_1 : cfun Try.prog H_impl_letters_1 Try.f106 = some R_impl_letters_1 := by kernel_rfl
theorem EN_impl_letters_1 {args : List Value} {h : Heap} {k : Value → Heap → Prop} (hargs : args.length = 1) (hw : B_impl_letters_1.wp Try.prog (retQ [(1, none)] k) (env0 args 2) h) : CallE Try.prog fn_impl_letters_1 args h k := enter Try.func106 rfl IR_impl_letters_1 hargs hw

def H_impl_members : Hint := ⟨[(0, false), (2, false), (3, false), (4, false), (5, false), (6, false), (7, false), (8, false)], [[0, 1, 3, 4]]⟩
def K79_1 : Pl := .st (.act none (.px (some 1) (.mv (.v 9)))) .done
@[simp] def W79_1 := @Pl.wpe _ _ K79_1.eq_1
def K79_2 : C := .seq (.pl <| .st (.ext 8 2) <|
    .st (.act none (.px (some 8) (.mv (.v 2)))) <|
    .st (.act none (.ex (some 9) (.call fn_slices_Clip_S_int_int [.v 8]))) K79_1) (.ret)
@[simp] def W79_2 := @C.wpe _ _ K79_2.eq_1
def K79_3 : C := .pl <| .st (.ext 8 1) <|
    .st (.act none (.px (some 8) (.bin .add (.v 7) (.c (.int .i64 1))))) <|
    .st (.act none (.px (some 7) (.mv (.v 8)))) .done
@[simp] def W79_3 := @C.wpe _ _ K79_3.eq_1
def K79_4 : Pl := .st (.act none (.px (some 2) (.mv (.v 11)))) .done
@[simp] def W79_4 := @Pl.wpe _ _ K79_4.eq_1
def K79_5 : C := .pl <| .st (.ext 8 4) <|
    .st (.act none (.px (some 8) (.mv (.v 2)))) <|
    .st (.act none (.px (some 9) (.mv (.v 3)))) <|
    .st (.act none (.psl 10 [.int .i64 0] [(0, 1, .v 9)])) <|
    .st (.act none (.ex (some 11) (.app 8 1 [.int .i64 0] (.o (.v 8)) (.p 1 10)))) K79_4
@[simp] def W79_5 := @C.wpe _ _ K79_5.eq_1
def K79_6 : C := .cond 8 (.v 8) K79_5 (.skip)
@[simp] def W79_6 := @C.wpe _ _ K79_6.eq_1
def K79_7 : C := .seq (.pl <| .st (.ext 8 1) <|
    .st (.act none (.px (some 8) (.mv (.v 4)))) .done) K79_6
@[simp] def W79_7 := @C.wpe _ _ K79_7.eq_1
def K79_8 : C := .seq (.block 1 (.seq (.pl <| .st (.ext 8 3) <|
    .st (.act none (.px (some 8) (.mv (.v 7)))) <|
    .st (.act none (.px (some 9) (.ia 1 (.v 5) (.v 7)))) <|
    .st (.act none (.ld (some 10) (.v 9) none)) <|
    .st (.act none (.px (some 3) (.mv (.v 8)))) <|
    .st (.act none (.px (some 4) (.mv (.v 10)))) .done) K79_7)) K79_3
@[simp] def W79_8 := @C.wpe _ _ K79_8.eq_1
def K79_9 : C := .seq (.cond 8 (.v 8) (.skip) (.exit 0)) K79_8
@[simp] def W79_9 := @C.wpe _ _ K79_9.eq_1
def K79_10 : C := .seq (.pl <| .st (.ext 8 1) <|
    .st (.act none (.px (some 8) (.bin .lss (.v 7) (.v 6)))) .done) K79_9
@[simp] def W79_10 := @C.wpe _ _ K79_10.eq_1
def K79_11 : C := .block 0 (.loop 8 [0, 1, 3, 4] K79_10)
@[simp] def W79_11 := @C.wpe _ _ K79_11.eq_1
def K79_12 : C := .seq (.seq (.pl <| .st (.ext 8 0) <|
    .st (.act none (.px (some 5) (.mv (.v 0)))) <|
    .st (.act none (.px (some 6) (.lenV (.v 5)))) <|
    .st (.act none (.px (some 7) (.mv (.c (.int .i64 0))))) .done) K79_11) K79_2
@[simp] def W79_12 := @C.wpe _ _ K79_12.eq_1
def K79_13 : C := .seq (.pl <| .st (.ext 8 0) <|
    .st (.act none (.px (some 2) (.mv (.c (.slice none 0 0))))) .done) K79_12
@[simp] def W79_13 := @C.wpe _ _ K79_13.eq_1
def B_impl_members : C := .seq (.pl <| .st (.ext 8 0) <|
    .st (.act none (.px (some 1) (.mv (.c (.slice none 0 0))))) .done) K79_13
@[simp] def WB_impl_members := @C.wpe _ _ B_impl_members.eq_1
def R_impl_members : FIR := ⟨B_impl_members, 8, [(1, none)]⟩
theorem IR_impl_members : cfun Try.prog H_impl_members Try.f79 = some R_impl_members := by kernel_rfl
theorem EN_impl_members {args : List Value} {h : Heap} {k : Value → Heap → Prop} (hargs : args.length = 1) (hw : B_impl_members.wp Try.prog (retQ [(1, none)] k) (env0 args 8) h) : CallE Try.prog fn_impl_members args h k := enter Try.func79 rfl IR_impl_members hargs hw

def H_impl_order : Hint := ⟨[(0, false), (1, false), (4, false), (5, false), (6, false), (7, false), (9, false), (10, false), (12, false), (17, false), (18, false), (19, false), (39, false), (40, false), (41, false)], [[1, 2, 3, 6, 7, 8, 12, 13, 14], [1, 2, 3, 6, 8, 9, 10, 11, 12, 13, 14], [1, 2, 3, 6, 8, 9, 10, 11]]⟩
def K116_1 : C := .seq (.pl <| .st (.ext 15 1) <|
    .st (.act none (.ld (some 15) (.v 4) none)) <|
    .st (.act none (.px (some 2) (.mv (.v 15)))) .done) (.ret)
@[simp] def W116_1 := @C.wpe _ _ K116_1.eq_1
def K116_2 : C := .pl <| .st (.ext 15 2) <|
    .st (.act none (.px (some 15) (.mv (.v 7)))) <|
    .st (.act none (.px (some 16) (.bin .add (.v 15) (.c (.int .i64 1))))) <|
    .st (.act none (.px (some 7) (.mv (.v 16)))) .done
@[simp] def W116_2 := @C.wpe _ _ K116_2.eq_1
def K116_3 : C := .pl <| .st (.ext 15 1) <|
    .st (.act none (.px (some 15) (.bin .add (.v 14) (.c (.int .i64 1))))) <|
    .st (.act none (.px (some 14) (.mv (.v 15)))) .done
@[simp] def W116_3 := @C.wpe _ _ K116_3.eq_1
def K116_4 : C := .pl <| .st (.ext 15 3) <|
    .st (.act none (.px (some 15) (.mv (.v 5)))) <|
    .st (.act none (.px (some 16) (.mv (.v 8)))) <|
    .st (.act none (.ex (some 17) (.callv (.v 15) [.v 16]))) .done
@[simp] def W116_4 := @C.wpe _ _ K116_4.eq_1
def K116_5 : C := .seq (.block 5 (.seq (.pl <| .st (.ext 15 2) <|
    .st (.act none (.px (some 15) (.ia 1 (.v 12) (.v 14)))) <|
    .st (.act none (.ld (some 16) (.v 15) none)) <|
    .st (.act none (.px (some 8) (.mv (.v 16)))) .done) K116_4)) K116_3
@[simp] def W116_5 := @C.wpe _ _ K116_5.eq_1
def K116_6 : C := .seq (.cond 15 (.v 15) (.skip) (.exit 4)) K116_5
@[simp] def W116_6 := @C.wpe _ _ K116_6.eq_1
def K116_7 : C := .seq (.pl <| .st (.ext 15 1) <|
    .st (.act none (.px (some 15) (.bin .lss (.v 14) (.v 13)))) .done) K116_6
@[simp] def W116_7 := @C.wpe _ _ K116_7.eq_1
def K116_8 : C := .block 4 (.loop 15 [1, 2, 3, 6, 8, 9, 10, 11] K116_7)
@[simp] def W116_8 := @C.wpe _ _ K116_8.eq_1
def K116_9 : C := .seq (.block 3 (.seq (.pl <| .st (.ext 15 6) <|
    .st (.act none (.px (some 15) (.mv (.v 0)))) <|
    .st (.act none (.ld (some 16) (.v 4) none)) <|
    .st (.act none (.px (some 17) (.mv (.v 7)))) <|
    .st (.act none (.px (some 18) (.ia 1 (.v 16) (.v 17)))) <|
    .st (.act none (.ld (some 19) (.v 18) none)) <|
    .st (.act none (.px (some 20) (.ia 1 (.v 15) (.v 19)))) <|
    .st (.act none (.ld (some 12) (.v 20) none)) <|
    .st (.act none (.px (some 13) (.lenV (.v 12)))) <|
    .st (.act none (.px (some 14) (.mv (.c (.int .i64 0))))) .done) K116_8)) K116_2
@[simp] def W116_9 := @C.wpe _ _ K116_9.eq_1
def K116_10 : C := .cond 15 (.v 18) (.skip) (.exit 2)
@[simp] def W116_10 := @C.wpe _ _ K116_10.eq_1
def K116_11 : C := .seq (.seq (.pl <| .st (.ext 15 4) <|
    .st (.act none (.px (some 15) (.mv (.v 7)))) <|
    .st (.act none (.ld (some 16) (.v 4) none)) <|
    .st (.act none (.px (some 17) (.lenV (.v 16)))) <|
    .st (.act none (.px (some 18) (.bin .lss (.v 15) (.v 17)))) .done) K116_10) K116_9
@[simp] def W116_11 := @C.wpe _ _ K116_11.eq_1
def K116_12 : C := .block 2 (.loop 15 [1, 2, 3, 6, 8, 9, 10, 11, 12, 13, 14] K116_11)
@[simp] def W116_12 := @C.wpe _ _ K116_12.eq_1
def K116_13 : C := .seq (.seq (.pl <| .st (.ext 15 0) <|
    .st (.act none (.px (some 7) (.mv (.c (.int .i64 0))))) .done) K116_12) K116_1
@[simp] def W116_13 := @C.wpe _ _ K116_13.eq_1
def K116_14 : C := .pl <| .st (.ext 15 1) <|
    .st (.act none (.px (some 15) (.bin .add (.v 11) (.c (.int .i64 1))))) <|
    .st (.act none (.px (some 11) (.mv (.v 15)))) .done
@[simp] def W116_14 := @C.wpe _ _ K116_14.eq_1
def K116_15 : C := .pl <| .st (.ext 15 3) <|
    .st (.act none (.px (some 15) (.mv (.v 5)))) <|
    .st (.act none (.px (some 16) (.mv (.v 6)))) <|
    .st (.act none (.ex (some 17) (.callv (.v 15) [.v 16]))) .done
@[simp] def W116_15 := @C.wpe _ _ K116_15.eq_1
def K116_16 : C := .seq (.block 1 (.seq (.pl <| .st (.ext 15 2) <|
    .st (.act none (.px (some 15) (.ia 1 (.v 9) (.v 11)))) <|
    .st (.act none (.ld (some 16) (.v 15) none)) <|
    .st (.act none (.px (some 6) (.mv (.v 16)))) .done) K116_15)) K116_14
@[simp] def W116_16 := @C.wpe _ _ K116_16.eq_1
def K116_17 : C := .seq (.cond 15 (.v 15) (.skip) (.exit 0)) K116_16
@[simp] def W116_17 := @C.wpe _ _ K116_17.eq_1
def K116_18 : C := .seq (.pl <| .st (.ext 15 1) <|
    .st (.act none (.px (some 15) (.bin .lss (.v 11) (.v 10)))) .done) K116_17
@[simp] def W116_18 := @C.wpe _ _ K116_18.eq_1
def K116_19 : C := .block 0 (.loop 15 [1, 2, 3, 6, 7, 8, 12, 13, 14] K116_18)
@[simp] def W116_19 := @C.wpe _ _ K116_19.eq_1
def K116_20 : C := .seq (.seq (.pl <| .st (.ext 15 0) <|
    .st (.act none (.px (some 9) (.mv (.v 1)))) <|
    .st (.act none (.px (some 10) (.lenV (.v 9)))) <|
    .st (.act none (.px (some 11) (.mv (.c (.int .i64 0))))) .done) K116_19) K116_13
@[simp] def W116_20 := @C.wpe _ _ K116_20.eq_1
def K116_21 : C := .seq (.pl <| .st (.ext 15 1) <|
    .st (.act none (.px (some 15) (.mkf (.func fn_impl_order_1) [] [.v 3, .v 4]))) <|
    .st (.act none (.px (some 5) (.mv (.v 15)))) .done) K116_20
@[simp] def W116_21 := @C.wpe _ _ K116_21.eq_1
def K116_22 : C := .seq (.pl <| .st (.ext 15 0) <|
    .st (.act none (.ex (some 4) (.alloc (.c (.slice none 0 0))))) .done) K116_21
@[simp] def W116_22 := @C.wpe _ _ K116_22.eq_1
def K116_23 : Pl := .st (.act none (.ex none (.store 1 (.v 3) (.v 17)))) .done
@[simp] def W116_23 := @Pl.wpe _ _ K116_23.eq_1
def K116_24 : Pl := .st (.act none (.ex (some 3) (.alloc (.c (.slice none 0 0))))) K116_23
@[simp] def W116_24 := @Pl.wpe _ _ K116_24.eq_1
def K116_25 : C := .seq (.pl <| .st (.ext 15 3) <|
    .st (.act none (.px (some 15) (.mv (.v 0)))) <|
    .st (.act none (.px (some 16) (.lenV (.v 15)))) <|
    .st (.act none (.ex (some 17) (.mks 1 1 [.bool false] (.v 16) (.v 16)))) K116_24) K116_22
@[simp] def W116_25 := @C.wpe _ _ K116_25.eq_1
def B_impl_order : C := .seq (.pl <| .st (.ext 15 0) <|
    .st (.act none (.px (some 2) (.mv (.c (.slice none 0 0))))) .done) K116_25
@[simp] def WB_impl_order := @C.wpe _ _ B_impl_order.eq_1
def R_impl_order : FIR := ⟨B_impl_order, 15, [(2, none)]⟩
theorem IR_impl_order : cfun Try.prog H_impl_order Try.f116 = some R_impl_order := by kernel_rfl
theorem EN_impl_order {args : List Value} {h : Heap} {k : Value → Heap → Prop} (hargs : args.length = 2) (hw : B_impl_order.wp Try.prog (retQ [(2, none)] k) (env0 args 15) h) : CallE Try.prog fn_impl_order args h k := enter Try.func116 rfl IR_impl_order hargs hw

def H_impl_order_1 : Hint := ⟨[(0, false), (1, false), (2, false)], []⟩
def K140_1 : Pl := .st (.act none (.ex none (.store 1 (.v 2) (.v 6)))) .done
@[simp] def W140_1 := @Pl.wpe _ _ K140_1.eq_1
def K140_2 : C := .pl <| .st (.ext 3 4) <|
    .st (.act none (.ld (some 3) (.v 2) none)) <|
    .st (.act none (.px (some 4) (.mv (.v 0)))) <|
    .st (.act none (.psl 5 [.int .i64 0] [(0, 1, .v 4)])) <|
    .st (.act none (.ex (some 6) (.app 8 1 [.int .i64 0] (.o (.v 3)) (.p 1 5)))) K140_1
@[simp] def W140_2 := @C.wpe _ _ K140_2.eq_1
def K140_3 : C := .seq (.pl <| .st (.ext 3 3) <|
    .st (.act none (.ld (some 3) (.v 1) none)) <|
    .st (.act none (.px (some 4) (.mv (.v 0)))) <|
    .st (.act none (.px (some 5) (.ia 1 (.v 3) (.v 4)))) <|
    .st (.act none (.ex none (.store 1 (.v 5) (.c (.bool true))))) .done) K140_2
@[simp] def W140_3 := @C.wpe _ _ K140_3.eq_1
def K140_4 : C := .cond 3 (.v 7) K140_3 (.skip)
@[simp] def W140_4 := @C.wpe _ _ K140_4.eq_1
def B_impl_order_1 : C := .seq (.pl <| .st (.ext 3 5) <|
    .st (.act none (.ld (some 3) (.v 1) none)) <|
    .st (.act none (.px (some 4) (.mv (.v 0)))) <|
    .st (.act none (.px (some 5) (.ia 1 (.v 3) (.v 4)))) <|
    .st (.act none (.ld (some 6) (.v 5) none)) <|
    .st (.act none (.px (some 7) (.un .not (.v 6)))) .done) K140_4
@[simp] def WB_impl_order_1 := @C.wpe _ _ B_impl_order_1.eq_1
def R_impl_order_1 : FIR := ⟨B_impl_order_1, 3, []⟩
theorem IR_impl_order_1 : cfun Try.prog H_impl_order_1 Try.f140 = some R_impl_order_1 := by kernel_rfl
theorem EN_impl_order_1 {args : List Value} {h : Heap} {k : Value → Heap → Prop} (hargs : args.length = 3) (hw : B_impl_order_1.wp Try.prog (retQ [] k) (env0 args 3) h) : CallE Try.prog fn_impl_order_1 args h k := enter Try.func140 rfl IR_impl_order_1 hargs hw

def H_impl_picked : Hint := ⟨[(0, false), (1, false), (4, false), (5, false), (6, false), (7, false), (11, false), (12, false), (13, false)], [[1, 2, 4, 5]]⟩
def K85_1 : C := .seq (.pl <| .st (.ext 9 1) <|
    .st (.act none (.px (some 9) (.mv (.v 3)))) <|
    .st (.act none (.px (some 2) (.mv (.v 9)))) .done) (.ret)
@[simp] def W85_1 := @C.wpe _ _ K85_1.eq_1
def K85_2 : C := .pl <| .st (.ext 9 1) <|
    .st (.act none (.px (some 9) (.bin .add (.v 8) (.c (.int .i64 1))))) <|
    .st (.act none (.px (some 8) (.mv (.v 9)))) .done
@[simp] def W85_2 := @C.wpe _ _ K85_2.eq_1
def K85_3 : C := .pl <| .st (.ext 9 7) <|
    .st (.act none (.px (some 9) (.mv (.v 3)))) <|
    .st (.act none (.px (some 10) (.mv (.v 4)))) <|
    .st (.act none (.px (some 11) (.mv (.v 0)))) <|
    .st (.act none (.px (some 12) (.mv (.v 5)))) <|
    .st (.act none (.px (some 13) (.ia 1 (.v 11) (.v 12)))) <|
    .st (.act none (.ld (some 14) (.v 13) none)) <|
    .st (.act none (.px (some 15) (.ia 1 (.v 9) (.v 10)))) <|
    .st (.act none (.ex none (.store 1 (.v 15) (.v 14)))) .done
@[simp] def W85_3 := @C.wpe _ _ K85_3.eq_1
def K85_4 : C := .seq (.block 1 (.seq (.pl <| .st (.ext 9 3) <|
    .st (.act none (.px (some 9) (.mv (.v 8)))) <|
    .st (.act none (.px (some 10) (.ia 1 (.v 6) (.v 8)))) <|
    .st (.act none (.ld (some 11) (.v 10) none)) <|
    .st (.act none (.px (some 4) (.mv (.v 9)))) <|
    .st (.act none (.px (some 5) (.mv (.v 11)))) .done) K85_3)) K85_2
@[simp] def W85_4 := @C.wpe _ _ K85_4.eq_1
def K85_5 : C := .seq (.cond 9 (.v 9) (.skip) (.exit 0)) K85_4
@[simp] def W85_5 := @C.wpe _ _ K85_5.eq_1
def K85_6 : C := .seq (.pl <| .st (.ext 9 1) <|
    .st (.act none (.px (some 9) (.bin .lss (.v 8) (.v 7)))) .done) K85_5
@[simp] def W85_6 := @C.wpe _ _ K85_6.eq_1
def K85_7 : C := .block 0 (.loop 9 [1, 2, 4, 5] K85_6)
@[simp] def W85_7 := @C.wpe _ _ K85_7.eq_1
def K85_8 : C := .seq (.seq (.pl <| .st (.ext 9 0) <|
    .st (.act none (.px (some 6) (.mv (.v 1)))) <|
    .st (.act none (.px (some 7) (.lenV (.v 6)))) <|
    .st (.act none (.px (some 8) (.mv (.c (.int .i64 0))))) .done) K85_7) K85_1
@[simp] def W85_8 := @C.wpe _ _ K85_8.eq_1
def K85_9 : Pl := .st (.act none (.px (some 3) (.mv (.v 11)))) .done
@[simp] def W85_9 := @Pl.wpe _ _ K85_9.eq_1
def K85_10 : C := .seq (.pl <| .st (.ext 9 3) <|
    .st (.act none (.px (some 9) (.mv (.v 1)))) <|
    .st (.act none (.px (some 10) (.lenV (.v 9)))) <|
    .st (.act none (.ex (some 11) (.mks 8 1 [.int .i64 0] (.v 10) (.v 10)))) K85_9) K85_8
@[simp] def W85_10 := @C.wpe _ _ K85_10.eq_1
def B_impl_picked : C := .seq (.pl <| .st (.ext 9 0) <|
    .st (.act none (.px (some 2) (.mv (.c (.slice none 0 0))))) .done) K85_10
@[simp] def WB_impl_picked := @C.wpe _ _ B_impl_picked.eq_1
def R_impl_picked : FIR := ⟨B_impl_picked, 9, [(2, none)]⟩
theorem IR_impl_picked : cfun Try.prog H_impl_picked Try.f85 = some R_impl_picked := by kernel_rfl
theorem EN_impl_picked {args : List Value} {h : Heap} {k : Value → Heap → Prop} (hargs : args.length = 2) (hw : B_impl_picked.wp Try.prog (retQ [(2, none)] k) (env0 args 9) h) : CallE Try.prog fn_impl_picked args h k := enter Try.func85 rfl IR_impl_picked hargs hw

def H_impl_reachable : Hint := ⟨[(0, false), (1, false), (4, false), (5, false), (6, false), (8, false), (9, false), (11, false), (17, false), (18, false), (19, false), (44, false), (45, false), (46, false)], [[1, 2, 5, 6, 7, 11, 12, 13], [1, 2, 5, 6, 7, 8, 9, 10, 11, 12, 13], [1, 2, 5, 6, 7, 8, 9, 10]]⟩
def K68_1 : C := .seq (.pl <| .st (.ext 14 1) <|
    .st (.act none (.px (some 14) (.mv (.v 3)))) <|
    .st (.act none (.px (some 2) (.mv (.v 14)))) .done) (.ret)
@[simp] def W68_1 := @C.wpe _ _ K68_1.eq_1
def K68_2 : C := .pl <| .st (.ext 14 1) <|
    .st (.act none (.px (some 14) (.bin .add (.v 13) (.c (.int .i64 1))))) <|
    .st (.act none (.px (some 13) (.mv (.v 14)))) .done
@[simp] def W68_2 := @C.wpe _ _ K68_2.eq_1
def K68_3 : Pl := .st (.act none (.px (some 4) (.mv (.v 17)))) .done
@[simp] def W68_3 := @Pl.wpe _ _ K68_3.eq_1
def K68_4 : C := .pl <| .st (.ext 14 4) <|
    .st (.act none (.px (some 14) (.mv (.v 4)))) <|
    .st (.act none (.px (some 15) (.mv (.v 7)))) <|
    .st (.act none (.psl 16 [.int .i64 0] [(0, 1, .v 15)])) <|
    .st (.act none (.ex (some 17) (.app 8 1 [.int .i64 0] (.o (.v 14)) (.p 1 16)))) K68_3
@[simp] def W68_4 := @C.wpe _ _ K68_4.eq_1
def K68_5 : C := .seq (.pl <| .st (.ext 14 3) <|
    .st (.act none (.px (some 14) (.mv (.v 3)))) <|
    .st (.act none (.px (some 15) (.mv (.v 7)))) <|
    .st (.act none (.px (some 16) (.ia 1 (.v 14) (.v 15)))) <|
    .st (.act none (.ex none (.store 1 (.v 16) (.c (.bool true))))) .done) K68_4
@[simp] def W68_5 := @C.wpe _ _ K68_5.eq_1
def K68_6 : C := .cond 14 (.v 18) K68_5 (.skip)
@[simp] def W68_6 := @C.wpe _ _ K68_6.eq_1
def K68_7 : C := .seq (.pl <| .st (.ext 14 5) <|
    .st (.act none (.px (some 14) (.mv (.v 3)))) <|
    .st (.act none (.px (some 15) (.mv (.v 7)))) <|
    .st (.act none (.px (some 16) (.ia 1 (.v 14) (.v 15)))) <|
    .st (.act none (.ld (some 17) (.v 16) none)) <|
    .st (.act none (.px (some 18) (.un .not (.v 17)))) .done) K68_6
@[simp] def W68_7 := @C.wpe _ _ K68_7.eq_1
def K68_8 : C := .seq (.block 5 (.seq (.pl <| .st (.ext 14 2) <|
    .st (.act none (.px (some 14) (.ia 1 (.v 11) (.v 13)))) <|
    .st (.act none (.ld (some 15) (.v 14) none)) <|
    .st (.act none (.px (some 7) (.mv (.v 15)))) .done) K68_7)) K68_2
@[simp] def W68_8 := @C.wpe _ _ K68_8.eq_1
def K68_9 : C := .seq (.cond 14 (.v 14) (.skip) (.exit 4)) K68_8
@[simp] def W68_9 := @C.wpe _ _ K68_9.eq_1
def K68_10 : C := .seq (.pl <| .st (.ext 14 1) <|
    .st (.act none (.px (some 14) (.bin .lss (.v 13) (.v 12)))) .done) K68_9
@[simp] def W68_10 := @C.wpe _ _ K68_10.eq_1
def K68_11 : C := .block 4 (.loop 14 [1, 2, 5, 6, 7, 8, 9, 10] K68_10)
@[simp] def W68_11 := @C.wpe _ _ K68_11.eq_1
def K68_12 : C := .seq (.pl <| .st (.ext 14 3) <|
    .st (.act none (.px (some 14) (.mv (.v 0)))) <|
    .st (.act none (.px (some 15) (.mv (.v 6)))) <|
    .st (.act none (.px (some 16) (.ia 1 (.v 14) (.v 15)))) <|
    .st (.act none (.ld (some 11) (.v 16) none)) <|
    .st (.act none (.px (some 12) (.lenV (.v 11)))) <|
    .st (.act none (.px (some 13) (.mv (.c (.int .i64 0))))) .done) K68_11
@[simp] def W68_12 := @C.wpe _ _ K68_12.eq_1
def K68_13 : C := .seq (.pl <| .st (.ext 14 5) <|
    .st (.act none (.px (some 14) (.mv (.v 4)))) <|
    .st (.act none (.px (some 15) (.mv (.v 4)))) <|
    .st (.act none (.px (some 16) (.lenV (.v 15)))) <|
    .st (.act none (.px (some 17) (.bin .sub (.v 16) (.c (.int .i64 1))))) <|
    .st (.act none (.px (some 18) (.sliceV 1 (.v 14) none (some (.v 17)) none))) <|
    .st (.act none (.px (some 4) (.mv (.v 18)))) .done) K68_12
@[simp] def W68_13 := @C.wpe _ _ K68_13.eq_1
def K68_14 : C := .block 3 (.seq (.pl <| .st (.ext 14 6) <|
    .st (.act none (.px (some 14) (.mv (.v 4)))) <|
    .st (.act none (.px (some 15) (.mv (.v 4)))) <|
    .st (.act none (.px (some 16) (.lenV (.v 15)))) <|
    .st (.act none (.px (some 17) (.bin .sub (.v 16) (.c (.int .i64 1))))) <|
    .st (.act none (.px (some 18) (.ia 1 (.v 14) (.v 17)))) <|
    .st (.act none (.ld (some 19) (.v 18) none)) <|
    .st (.act none (.px (some 6) (.mv (.v 19)))) .done) K68_13)
@[simp] def W68_14 := @C.wpe _ _ K68_14.eq_1
def K68_15 : C := .cond 14 (.v 16) (.skip) (.exit 2)
@[simp] def W68_15 := @C.wpe _ _ K68_15.eq_1
def K68_16 : C := .seq (.seq (.pl <| .st (.ext 14 3) <|
    .st (.act none (.px (some 14) (.mv (.v 4)))) <|
    .st (.act none (.px (some 15) (.lenV (.v 14)))) <|
    .st (.act none (.px (some 16) (.bin .gtr (.v 15) (.c (.int .i64 0))))) .done) K68_15) K68_14
@[simp] def W68_16 := @C.wpe _ _ K68_16.eq_1
def K68_17 : C := .seq (.block 2 (.loop 14 [1, 2, 5, 6, 7, 8, 9, 10, 11, 12, 13] K68_16)) K68_1
@[simp] def W68_17 := @C.wpe _ _ K68_17.eq_1
def K68_18 : C := .pl <| .st (.ext 14 1) <|
    .st (.act none (.px (some 14) (.bin .add (.v 10) (.c (.int .i64 1))))) <|
    .st (.act none (.px (some 10) (.mv (.v 14)))) .done
@[simp] def W68_18 := @C.wpe _ _ K68_18.eq_1
def K68_19 : C := .pl <| .st (.ext 14 3) <|
    .st (.act none (.px (some 14) (.mv (.v 3)))) <|
    .st (.act none (.px (some 15) (.mv (.v 5)))) <|
    .st (.act none (.px (some 16) (.ia 1 (.v 14) (.v 15)))) <|
    .st (.act none (.ex none (.store 1 (.v 16) (.c (.bool true))))) .done
@[simp] def W68_19 := @C.wpe _ _ K68_19.eq_1
def K68_20 : C := .seq (.block 1 (.seq (.pl <| .st (.ext 14 2) <|
    .st (.act none (.px (some 14) (.ia 1 (.v 8) (.v 10)))) <|
    .st (.act none (.ld (some 15) (.v 14) none)) <|
    .st (.act none (.px (some 5) (.mv (.v 15)))) .done) K68_19)) K68_18
@[simp] def W68_20 := @C.wpe _ _ K68_20.eq_1
def K68_21 : C := .seq (.cond 14 (.v 14) (.skip) (.exit 0)) K68_20
@[simp] def W68_21 := @C.wpe _ _ K68_21.eq_1
def K68_22 : C := .seq (.pl <| .st (.ext 14 1) <|
    .st (.act none (.px (some 14) (.bin .lss (.v 10) (.v 9)))) .done) K68_21
@[simp] def W68_22 := @C.wpe _ _ K68_22.eq_1
def K68_23 : C := .block 0 (.loop 14 [1, 2, 5, 6, 7, 11, 12, 13] K68_22)
@[simp] def W68_23 := @C.wpe _ _ K68_23.eq_1
def K68_24 : C := .seq (.seq (.pl <| .st (.ext 14 0) <|
    .st (.act none (.px (some 8) (.mv (.v 1)))) <|
    .st (.act none (.px (some 9) (.lenV (.v 8)))) <|
    .st (.act none (.px (some 10) (.mv (.c (.int .i64 0))))) .done) K68_23) K68_17
@[simp] def W68_24 := @C.wpe _ _ K68_24.eq_1
def K68_25 : Pl := .st (.act none (.px (some 4) (.mv (.v 15)))) .done
@[simp] def W68_25 := @Pl.wpe _ _ K68_25.eq_1
def K68_26 : C := .seq (.pl <| .st (.ext 14 2) <|
    .st (.act none (.px (some 14) (.mv (.v 1)))) <|
    .st (.act none (.ex (some 15) (.call fn_impl_clone_int [.v 14]))) K68_25) K68_24
@[simp] def W68_26 := @C.wpe _ _ K68_26.eq_1
def K68_27 : Pl := .st (.act none (.px (some 3) (.mv (.v 16)))) .done
@[simp] def W68_27 := @Pl.wpe _ _ K68_27.eq_1
def K68_28 : C := .seq (.pl <| .st (.ext 14 3) <|
    .st (.act none (.px (some 14) (.mv (.v 0)))) <|
    .st (.act none (.px (some 15) (.lenV (.v 14)))) <|
    .st (.act none (.ex (some 16) (.mks 1 1 [.bool false] (.v 15) (.v 15)))) K68_27) K68_26
@[simp] def W68_28 := @C.wpe _ _ K68_28.eq_1
def B_impl_reachable : C := .seq (.pl <| .st (.ext 14 0) <|
    .st (.act none (.px (some 2) (.mv (.c (.slice none 0 0))))) .done) K68_28
@[simp] def WB_impl_reachable := @C.wpe _ _ B_impl_reachable.eq_1
def R_impl_reachable : FIR := ⟨B_impl_reachable, 14, [(2, none)]⟩
theorem IR_impl_reachable : cfun Try.prog H_impl_reachable Try.f68 = some R_impl_reachable := by kernel_rfl
theorem EN_impl_reachable {args : List Value} {h : Heap} {k : Value → Heap → Prop} (hargs : args.length = 2) (hw : B_impl_reachable.wp Try.prog (retQ [(2, none)] k) (env0 args 14) h) : CallE Try.prog fn_impl_reachable args h k := enter Try.func68 rfl IR_impl_reachable hargs hw

def H_impl_shortest : Hint := ⟨[(0, false), (1, false), (2, false), (6, false), (7, false), (8, false), (9, false), (11, false), (12, false), (13, false), (14, false), (16, false), (21, false), (22, false), (29, false), (30, false), (31, false), (76, false), (77, false), (78, false)], [[3, 5, 6, 7, 8, 9, 10, 11, 14, 15, 16, 17, 18, 19], [1, 3, 5, 7, 8, 9, 10, 11, 12, 13, 17, 18, 19], [1, 3, 5, 7, 9, 10, 11, 12, 13, 14, 15, 16, 17, 18, 19], [0, 1, 2, 3, 5, 6, 7, 8, 11, 12, 13, 14, 15, 16, 17, 18, 19], [1, 3, 5, 7, 9, 10, 11, 12, 13, 14, 15, 16]]⟩
def K117_1 : C := .seq (.pl <| .st (.ext 20 0) <|
    .st (.act none (.px (some 3) (.mv (.c (.slice none 0 0))))) .done) (.ret)
@[simp] def W117_1 := @C.wpe _ _ K117_1.eq_1
def K117_2 : C := .pl <| .st (.ext 20 2) <|
    .st (.act none (.px (some 20) (.mv (.v 8)))) <|
    .st (.act none (.px (some 21) (.bin .add (.v 20) (.c (.int .i64 1))))) <|
    .st (.act none (.px (some 8) (.mv (.v 21)))) .done
@[simp] def W117_2 := @C.wpe _ _ K117_2.eq_1
def K117_3 : C := .pl <| .st (.ext 20 1) <|
    .st (.act none (.px (some 20) (.bin .add (.v 19) (.c (.int .i64 1))))) <|
    .st (.act none (.px (some 19) (.mv (.v 20)))) .done
@[simp] def W117_3 := @C.wpe _ _ K117_3.eq_1
def K117_4 : Pl := .st (.act none (.px (some 6) (.mv (.v 23)))) .done
@[simp] def W117_4 := @Pl.wpe _ _ K117_4.eq_1
def K117_5 : C := .pl <| .st (.ext 20 4) <|
    .st (.act none (.px (some 20) (.mv (.v 6)))) <|
    .st (.act none (.px (some 21) (.mv (.v 11)))) <|
    .st (.act none (.psl 22 [.int .i64 0] [(0, 1, .v 21)])) <|
    .st (.act none (.ex (some 23) (.app 8 1 [.int .i64 0] (.o (.v 20)) (.p 1 22)))) K117_4
@[simp] def W117_5 := @C.wpe _ _ K117_5.eq_1
def K117_6 : C := .seq (.pl <| .st (.ext 20 7) <|
    .st (.act none (.px (some 20) (.mv (.v 4)))) <|
    .st (.act none (.px (some 21) (.mv (.v 11)))) <|
    .st (.act none (.px (some 22) (.mv (.v 6)))) <|
    .st (.act none (.px (some 23) (.mv (.v 8)))) <|
    .st (.act none (.px (some 24) (.ia 1 (.v 22) (.v 23)))) <|
    .st (.act none (.ld (some 25) (.v 24) none)) <|
    .st (.act none (.px (some 26) (.ia 1 (.v 20) (.v 21)))) <|
    .st (.act none (.ex none (.store 1 (.v 26) (.v 25)))) .done) K117_5
@[simp] def W117_6 := @C.wpe _ _ K117_6.eq_1
def K117_7 : C := .cond 20 (.v 24) K117_6 (.skip)
@[simp] def W117_7 := @C.wpe _ _ K117_7.eq_1
def K117_8 : C := .seq (.pl <| .st (.ext 20 5) <|
    .st (.act none (.px (some 20) (.mv (.v 4)))) <|
    .st (.act none (.px (some 21) (.mv (.v 11)))) <|
    .st (.act none (.px (some 22) (.ia 1 (.v 20) (.v 21)))) <|
    .st (.act none (.ld (some 23) (.v 22) none)) <|
    .st (.act none (.px (some 24) (.bin .eql (.v 23) (.c (.int .i64 (-2)))))) .done) K117_7
@[simp] def W117_8 := @C.wpe _ _ K117_8.eq_1
def K117_9 : C := .seq (.block 9 (.seq (.pl <| .st (.ext 20 2) <|
    .st (.act none (.px (some 20) (.ia 1 (.v 17) (.v 19)))) <|
    .st (.act none (.ld (some 21) (.v 20) none)) <|
    .st (.act none (.px (some 11) (.mv (.v 21)))) .done) K117_8)) K117_3
@[simp] def W117_9 := @C.wpe _ _ K117_9.eq_1
def K117_10 : C := .seq (.cond 20 (.v 20) (.skip) (.exit 8)) K117_9
@[simp] def W117_10 := @C.wpe _ _ K117_10.eq_1
def K117_11 : C := .seq (.pl <| .st (.ext 20 1) <|
    .st (.act none (.px (some 20) (.bin .lss (.v 19) (.v 18)))) .done) K117_10
@[simp] def W117_11 := @C.wpe _ _ K117_11.eq_1
def K117_12 : C := .block 8 (.loop 20 [1, 3, 5, 7, 9, 10, 11, 12, 13, 14, 15, 16] K117_11)
@[simp] def W117_12 := @C.wpe _ _ K117_12.eq_1
def K117_13 : C := .seq (.pl <| .st (.ext 20 6) <|
    .st (.act none (.px (some 20) (.mv (.v 0)))) <|
    .st (.act none (.px (some 21) (.mv (.v 6)))) <|
    .st (.act none (.px (some 22) (.mv (.v 8)))) <|
    .st (.act none (.px (some 23) (.ia 1 (.v 21) (.v 22)))) <|
    .st (.act none (.ld (some 24) (.v 23) none)) <|
    .st (.act none (.px (some 25) (.ia 1 (.v 20) (.v 24)))) <|
    .st (.act none (.ld (some 17) (.v 25) none)) <|
    .st (.act none (.px (some 18) (.lenV (.v 17)))) <|
    .st (.act none (.px (some 19) (.mv (.c (.int .i64 0))))) .done) K117_12
@[simp] def W117_13 := @C.wpe _ _ K117_13.eq_1
def K117_14 : Pl := .st (.act none (.px (some 3) (.mv (.v 21)))) .done
@[simp] def W117_14 := @Pl.wpe _ _ K117_14.eq_1
def K117_15 : C := .seq (.pl <| .st (.ext 20 2) <|
    .st (.act none (.px (some 20) (.mv (.v 10)))) <|
    .st (.act none (.ex (some 21) (.call fn_slices_Clip_S_int_int [.v 20]))) K117_14) (.ret)
@[simp] def W117_15 := @C.wpe _ _ K117_15.eq_1
def K117_16 : C := .seq (.pl <| .st (.ext 20 2) <|
    .st (.act none (.px (some 20) (.mv (.v 10)))) <|
    .st (.act none (.ex (some 21) (.call fn_slices_Reverse_S_int_int [.v 20]))) .done) K117_15
@[simp] def W117_16 := @C.wpe _ _ K117_16.eq_1
def K117_17 : C := .pl <| .st (.ext 20 4) <|
    .st (.act none (.px (some 20) (.mv (.v 4)))) <|
    .st (.act none (.px (some 21) (.mv (.v 9)))) <|
    .st (.act none (.px (some 22) (.ia 1 (.v 20) (.v 21)))) <|
    .st (.act none (.ld (some 23) (.v 22) none)) <|
    .st (.act none (.px (some 9) (.mv (.v 23)))) .done
@[simp] def W117_17 := @C.wpe _ _ K117_17.eq_1
def K117_18 : Pl := .st (.act none (.px (some 10) (.mv (.v 23)))) .done
@[simp] def W117_18 := @Pl.wpe _ _ K117_18.eq_1
def K117_19 : C := .seq (.block 7 (.pl <| .st (.ext 20 4) <|
    .st (.act none (.px (some 20) (.mv (.v 10)))) <|
    .st (.act none (.px (some 21) (.mv (.v 9)))) <|
    .st (.act none (.psl 22 [.int .i64 0] [(0, 1, .v 21)])) <|
    .st (.act none (.ex (some 23) (.app 8 1 [.int .i64 0] (.o (.v 20)) (.p 1 22)))) K117_18)) K117_17
@[simp] def W117_19 := @C.wpe _ _ K117_19.eq_1
def K117_20 : C := .cond 20 (.v 21) (.skip) (.exit 6)
@[simp] def W117_20 := @C.wpe _ _ K117_20.eq_1
def K117_21 : C := .seq (.seq (.pl <| .st (.ext 20 2) <|
    .st (.act none (.px (some 20) (.mv (.v 9)))) <|
    .st (.act none (.px (some 21) (.bin .geq (.v 20) (.c (.int .i64 0))))) .done) K117_20) K117_19
@[simp] def W117_21 := @C.wpe _ _ K117_21.eq_1
def K117_22 : C := .seq (.block 6 (.loop 20 [0, 1, 2, 3, 5, 6, 7, 8, 11, 12, 13, 14, 15, 16, 17, 18, 19] K117_21)) K117_16
@[simp] def W117_22 := @C.wpe _ _ K117_22.eq_1
def K117_23 : C := .seq (.pl <| .st (.ext 20 0) <|
    .st (.act none (.px (some 10) (.mv (.c (.slice none 0 0))))) .done) K117_22
@[simp] def W117_23 := @C.wpe _ _ K117_23.eq_1
def K117_24 : C := .cond 20 (.v 22) K117_23 (.skip)
@[simp] def W117_24 := @C.wpe _ _ K117_24.eq_1
def K117_25 : C := .seq (.pl <| .st (.ext 20 3) <|
    .st (.act none (.px (some 20) (.mv (.v 2)))) <|
    .st (.act none (.px (some 21) (.mv (.v 9)))) <|
    .st (.act none (.ex (some 22) (.callv (.v 20) [.v 21]))) .done) K117_24
@[simp] def W117_25 := @C.wpe _ _ K117_25.eq_1
def K117_26 : C := .seq (.block 5 (.seq (.seq (.pl <| .st (.ext 20 4) <|
    .st (.act none (.px (some 20) (.mv (.v 6)))) <|
    .st (.act none (.px (some 21) (.mv (.v 8)))) <|
    .st (.act none (.px (some 22) (.ia 1 (.v 20) (.v 21)))) <|
    .st (.act none (.ld (some 23) (.v 22) none)) <|
    .st (.act none (.px (some 9) (.mv (.v 23)))) .done) K117_25) K117_13)) K117_2
@[simp] def W117_26 := @C.wpe _ _ K117_26.eq_1
def K117_27 : C := .cond 20 (.v 23) (.skip) (.exit 4)
@[simp] def W117_27 := @C.wpe _ _ K117_27.eq_1
def K117_28 : C := .seq (.seq (.pl <| .st (.ext 20 4) <|
    .st (.act none (.px (some 20) (.mv (.v 8)))) <|
    .st (.act none (.px (some 21) (.mv (.v 6)))) <|
    .st (.act none (.px (some 22) (.lenV (.v 21)))) <|
    .st (.act none (.px (some 23) (.bin .lss (.v 20) (.v 22)))) .done) K117_27) K117_26
@[simp] def W117_28 := @C.wpe _ _ K117_28.eq_1
def K117_29 : C := .block 4 (.loop 20 [1, 3, 5, 7, 9, 10, 11, 12, 13, 14, 15, 16, 17, 18, 19] K117_28)
@[simp] def W117_29 := @C.wpe _ _ K117_29.eq_1
def K117_30 : C := .seq (.seq (.pl <| .st (.ext 20 0) <|
    .st (.act none (.px (some 8) (.mv (.c (.int .i64 0))))) .done) K117_29) K117_1
@[simp] def W117_30 := @C.wpe _ _ K117_30.eq_1
def K117_31 : C := .pl <| .st (.ext 20 1) <|
    .st (.act none (.px (some 20) (.bin .add (.v 16) (.c (.int .i64 1))))) <|
    .st (.act none (.px (some 16) (.mv (.v 20)))) .done
@[simp] def W117_31 := @C.wpe _ _ K117_31.eq_1
def K117_32 : Pl := .st (.act none (.px (some 6) (.mv (.v 23)))) .done
@[simp] def W117_32 := @Pl.wpe _ _ K117_32.eq_1
def K117_33 : C := .pl <| .st (.ext 20 4) <|
    .st (.act none (.px (some 20) (.mv (.v 6)))) <|
    .st (.act none (.px (some 21) (.mv (.v 7)))) <|
    .st (.act none (.psl 22 [.int .i64 0] [(0, 1, .v 21)])) <|
    .st (.act none (.ex (some 23) (.app 8 1 [.int .i64 0] (.o (.v 20)) (.p 1 22)))) K117_32
@[simp] def W117_33 := @C.wpe _ _ K117_33.eq_1
def K117_34 : C := .seq (.pl <| .st (.ext 20 3) <|
    .st (.act none (.px (some 20) (.mv (.v 4)))) <|
    .st (.act none (.px (some 21) (.mv (.v 7)))) <|
    .st (.act none (.px (some 22) (.ia 1 (.v 20) (.v 21)))) <|
    .st (.act none (.ex none (.store 1 (.v 22) (.c (.int .i64 (-1)))))) .done) K117_33
@[simp] def W117_34 := @C.wpe _ _ K117_34.eq_1
def K117_35 : C := .seq (.block 3 (.seq (.pl <| .st (.ext 20 2) <|
    .st (.act none (.px (some 20) (.ia 1 (.v 14) (.v 16)))) <|
    .st (.act none (.ld (some 21) (.v 20) none)) <|
    .st (.act none (.px (some 7) (.mv (.v 21)))) .done) K117_34)) K117_31
@[simp] def W117_35 := @C.wpe _ _ K117_35.eq_1
def K117_36 : C := .seq (.cond 20 (.v 20) (.skip) (.exit 2)) K117_35
@[simp] def W117_36 := @C.wpe _ _ K117_36.eq_1
def K117_37 : C := .seq (.pl <| .st (.ext 20 1) <|
    .st (.act none (.px (some 20) (.bin .lss (.v 16) (.v 15)))) .done) K117_36
@[simp] def W117_37 := @C.wpe _ _ K117_37.eq_1
def K117_38 : C := .block 2 (.loop 20 [1, 3, 5, 7, 8, 9, 10, 11, 12, 13, 17, 18, 19] K117_37)
@[simp] def W117_38 := @C.wpe _ _ K117_38.eq_1
def K117_39 : C := .seq (.seq (.pl <| .st (.ext 20 0) <|
    .st (.act none (.px (some 14) (.mv (.v 1)))) <|
    .st (.act none (.px (some 15) (.lenV (.v 14)))) <|
    .st (.act none (.px (some 16) (.mv (.c (.int .i64 0))))) .done) K117_38) K117_30
@[simp] def W117_39 := @C.wpe _ _ K117_39.eq_1
def K117_40 : C := .seq (.pl <| .st (.ext 20 0) <|
    .st (.act none (.px (some 6) (.mv (.c (.slice none 0 0))))) .done) K117_39
@[simp] def W117_40 := @C.wpe _ _ K117_40.eq_1
def K117_41 : C := .pl <| .st (.ext 20 1) <|
    .st (.act none (.px (some 20) (.bin .add (.v 13) (.c (.int .i64 1))))) <|
    .st (.act none (.px (some 13) (.mv (.v 20)))) .done
@[simp] def W117_41 := @C.wpe _ _ K117_41.eq_1
def K117_42 : C := .pl <| .st (.ext 20 3) <|
    .st (.act none (.px (some 20) (.mv (.v 4)))) <|
    .st (.act none (.px (some 21) (.mv (.v 5)))) <|
    .st (.act none (.px (some 22) (.ia 1 (.v 20) (.v 21)))) <|
    .st (.act none (.ex none (.store 1 (.v 22) (.c (.int .i64 (-2)))))) .done
@[simp] def W117_42 := @C.wpe _ _ K117_42.eq_1
def K117_43 : C := .seq (.block 1 (.seq (.pl <| .st (.ext 20 1) <|
    .st (.act none (.px (some 20) (.mv (.v 13)))) <|
    .st (.act none (.px (some 5) (.mv (.v 20)))) .done) K117_42)) K117_41
@[simp] def W117_43 := @C.wpe _ _ K117_43.eq_1
def K117_44 : C := .seq (.cond 20 (.v 20) (.skip) (.exit 0)) K117_43
@[simp] def W117_44 := @C.wpe _ _ K117_44.eq_1
def K117_45 : C := .seq (.pl <| .st (.ext 20 1) <|
    .st (.act none (.px (some 20) (.bin .lss (.v 13) (.v 12)))) .done) K117_44
@[simp] def W117_45 := @C.wpe _ _ K117_45.eq_1
def K117_46 : C := .block 0 (.loop 20 [3, 5, 6, 7, 8, 9, 10, 11, 14, 15, 16, 17, 18, 19] K117_45)
@[simp] def W117_46 := @C.wpe _ _ K117_46.eq_1
def K117_47 : C := .seq (.seq (.pl <| .st (.ext 20 1) <|
    .st (.act none (.px (some 20) (.mv (.v 4)))) <|
    .st (.act none (.px (some 12) (.lenV (.v 20)))) <|
    .st (.act none (.px (some 13) (.mv (.c (.int .i64 0))))) .done) K117_46) K117_40
@[simp] def W117_47 := @C.wpe _ _ K117_47.eq_1
def K117_48 : Pl := .st (.act none (.px (some 4) (.mv (.v 22)))) .done
@[simp] def W117_48 := @Pl.wpe _ _ K117_48.eq_1
def K117_49 : C := .seq (.pl <| .st (.ext 20 3) <|
    .st (.act none (.px (some 20) (.mv (.v 0)))) <|
    .st (.act none (.px (some 21) (.lenV (.v 20)))) <|
    .st (.act none (.ex (some 22) (.mks 8 1 [.int .i64 0] (.v 21) (.v 21)))) K117_48) K117_47
@[simp] def W117_49 := @C.wpe _ _ K117_49.eq_1
def B_impl_shortest : C := .seq (.pl <| .st (.ext 20 0) <|
    .st (.act none (.px (some 3) (.mv (.c (.slice none 0 0))))) .done) K117_49
@[simp] def WB_impl_shortest := @C.wpe _ _ B_impl_shortest.eq_1
def R_impl_shortest : FIR := ⟨B_impl_shortest, 20, [(3, none)]⟩
theorem IR_impl_shortest : cfun Try.prog H_impl_shortest Try.f117 = some R_impl_shortest := by kernel_rfl
theorem EN_impl_shortest {args : List Value} {h : Heap} {k : Value → Heap → Prop} (hargs : args.length = 3) (hw : B_impl_shortest.wp Try.prog (retQ [(3, none)] k) (env0 args 20) h) : CallE Try.prog fn_impl_shortest args h k := enter Try.func117 rfl IR_impl_shortest hargs hw

def H_impl_wordOk : Hint := ⟨[(0, false), (2, false)], []⟩
def K47_1 : Pl := .st (.act none (.px (some 8) (.pick (.v 5) (.v 7) (.c (.bool false))))) <|
    .st (.act none (.px (some 1) (.mv (.v 8)))) .done
@[simp] def W47_1 := @Pl.wpe _ _ K47_1.eq_1
def K47_2 : C := .seq (.pl <| .st (.ext 2 7) <|
    .st (.act none (.px (some 2) (.mv (.v 0)))) <|
    .st (.act none (.px (some 3) (.lenV (.v 2)))) <|
    .st (.act none (.px (some 4) (.bin .leq (.v 3) (.c (.int .i64 200))))) <|
    .st (.act none (.px (some 5) (.mv (.v 4)))) <|
    .st (.act (some (.v 5, true)) (.px (some 6) (.mv (.v 0)))) <|
    .st (.act (some (.v 5, true)) (.ex (some 7) (.call fn_impl_letters [.v 6]))) K47_1) (.ret)
@[simp] def W47_2 := @C.wpe _ _ K47_2.eq_1
def B_impl_wordOk : C := .seq (.pl <| .st (.ext 2 0) <|
    .st (.act none (.px (some 1) (.mv (.c (.bool false))))) .done) K47_2
@[simp] def WB_impl_wordOk := @C.wpe _ _ B_impl_wordOk.eq_1
def R_impl_wordOk : FIR := ⟨B_impl_wordOk, 2, [(1, none)]⟩
theorem IR_impl_wordOk : cfun Try.prog H_impl_wordOk Try.f47 = some R_impl_wordOk := by kernel_rfl
theorem EN_impl_wordOk {args : List Value} {h : Heap} {k : Value → Heap → Prop} (hargs : args.length = 1) (hw : B_impl_wordOk.wp Try.prog (retQ [(1, none)] k) (env0 args 2) h) : CallE Try.prog fn_impl_wordOk args h k := enter Try.func47 rfl IR_impl_wordOk hargs hw

def H_laws_FnExactExtendWord : Hint := ⟨[(0, false), (1, false), (2, true), (4, false), (5, false), (6, true), (7, false), (8, true), (9, false), (10, true), (11, false), (12, false), (13, false), (14, false), (15, true), (16, false)], []⟩
def K7_1 : C := .seq (.pl <| .st (.ext 16 0) <|
    .st (.act none (.px (some 3) (.mv (.c (.bool true))))) .done) (.ret)
@[simp] def W7_1 := @C.wpe _ _ K7_1.eq_1
def K7_2 : C := .seq (.pl <| .st (.ext 16 0) <|
    .st (.act none (.px (some 3) (.mv (.c (.bool false))))) .done) (.ret)
@[simp] def W7_2 := @C.wpe _ _ K7_2.eq_1
def K7_3 : C := .cond 16 (.v 18) K7_2 (.skip)
@[simp] def W7_3 := @C.wpe _ _ K7_3.eq_1
def K7_4 : C := .seq (.seq (.pl <| .st (.ext 16 3) <|
    .st (.act none (.px (some 16) (.mv (.v 13)))) <|
    .st (.act none (.px (some 17) (.mv (.v 12)))) <|
    .st (.act none (.px (some 18) (.bin .neq (.v 16) (.v 17)))) .done) K7_3) K7_1
@[simp] def W7_4 := @C.wpe _ _ K7_4.eq_1
def K7_5 : C := .seq (.pl <| .st (.ext 16 0) <|
    .st (.act none (.px (some 3) (.mv (.c (.bool false))))) .done) (.ret)
@[simp] def W7_5 := @C.wpe _ _ K7_5.eq_1
def K7_6 : C := .cond 16 (.v 17) K7_5 (.skip)
@[simp] def W7_6 := @C.wpe _ _ K7_6.eq_1
def K7_7 : C := .seq (.seq (.pl <| .st (.ext 16 2) <|
    .st (.act none (.px (some 16) (.mv (.v 13)))) <|
    .st (.act none (.px (some 17) (.bin .lss (.v 16) (.c (.int .i64 0))))) .done) K7_6) K7_4
@[simp] def W7_7 := @C.wpe _ _ K7_7.eq_1
def K7_8 : Pl := .st (.act none (.px (some 13) (.mv (.v 18)))) .done
@[simp] def W7_8 := @Pl.wpe _ _ K7_8.eq_1
def K7_9 : C := .seq (.pl <| .st (.ext 16 3) <|
    .st (.act none (.pget (some 16) none 9 0 (some 2))) <|
    .st (.act none (.px (some 17) (.mv (.v 13)))) <|
    .st (.act none (.ex (some 18) (.call fn_laws_heldLasso [.v 16, .v 17]))) K7_8) K7_7
@[simp] def W7_9 := @C.wpe _ _ K7_9.eq_1
def K7_10 : C := .seq (.pl <| .st (.ext 16 0) <|
    .st (.act none (.px (some 13) (.mv (.c (.int .i64 1))))) .done) K7_9
@[simp] def W7_10 := @C.wpe _ _ K7_10.eq_1
def K7_11 : C := .seq (.pl <| .st (.ext 16 0) <|
    .st (.act none (.px (some 3) (.mv (.c (.bool false))))) .done) (.ret)
@[simp] def W7_11 := @C.wpe _ _ K7_11.eq_1
def K7_12 : C := .cond 16 (.v 24) K7_11 (.skip)
@[simp] def W7_12 := @C.wpe _ _ K7_12.eq_1
def K7_13 : Pl := .st (.act none (.px (some 19) (.un .not (.v 18)))) <|
    .st (.act none (.px (some 20) (.mv (.v 19)))) <|
    .st (.act (some (.v 20, false)) (.px (some 21) (.mv (.v 15)))) <|
    .st (.act (some (.v 20, false)) (.px (some 22) (.mv (.v 6)))) <|
    .st (.act (some (.v 20, false)) (.px (some 23) (.eqb true (.v 21) (.v 22)))) <|
    .st (.act none (.px (some 24) (.pick (.v 20) (.c (.bool true)) (.v 23)))) .done
@[simp] def W7_13 := @Pl.wpe _ _ K7_13.eq_1
def K7_14 : C := .seq (.seq (.pl <| .st (.ext 16 9) <|
    .st (.act none (.pget (some 16) none 14 0 (some 2))) <|
    .st (.act none (.pget (some 17) none 5 0 (some 2))) <|
    .st (.act none (.ex (some 18) (.call fn_laws_eqLasso [.v 16, .v 17]))) K7_13) K7_12) K7_10
@[simp] def W7_14 := @C.wpe _ _ K7_14.eq_1
def K7_15 : Pl := .st (.act none (.px (some 21) (.mv (.v 20)))) <|
    .st (.act none (.px (some 22) (.extract 0 (.v 21)))) <|
    .st (.act none (.px (some 23) (.extract 1 (.v 21)))) <|
    .st (.act none (.pnew 14 (.c (.agg #[.slice none 0 0, .slice none 0 0])) [])) <|
    .st (.act none (.pset none 14 0 2 (.v 22))) <|
    .st (.act none (.px (some 15) (.mv (.v 23)))) .done
@[simp] def W7_15 := @Pl.wpe _ _ K7_15.eq_1
def K7_16 : Pl := .st (.act none (.ex (some 20) (.call fn_impl_ExtendWord [.v 17, .v 19]))) K7_15
@[simp] def W7_16 := @Pl.wpe _ _ K7_16.eq_1
def K7_17 : Pl := .st (.act none (.px (some 18) (.mv (.v 1)))) <|
    .st (.act none (.ex (some 19) (.call fn_laws_toIntS [.v 18]))) K7_16
@[simp] def W7_17 := @Pl.wpe _ _ K7_17.eq_1
def K7_18 : C := .seq (.pl <| .st (.ext 16 8) <|
    .st (.act none (.pget (some 16) none 2 0 (some 3))) <|
    .st (.act none (.ex (some 17) (.call fn_laws_toAutomaton [.v 16]))) K7_17) K7_14
@[simp] def W7_18 := @C.wpe _ _ K7_18.eq_1
def K7_19 : C := .seq (.pl <| .st (.ext 16 0) <|
    .st (.act none (.px (some 3) (.mv (.c (.bool false))))) .done) (.ret)
@[simp] def W7_19 := @C.wpe _ _ K7_19.eq_1
def K7_20 : C := .cond 16 (.v 18) K7_19 (.skip)
@[simp] def W7_20 := @C.wpe _ _ K7_20.eq_1
def K7_21 : C := .seq (.seq (.pl <| .st (.ext 16 3) <|
    .st (.act none (.px (some 16) (.mv (.v 13)))) <|
    .st (.act none (.px (some 17) (.mv (.v 12)))) <|
    .st (.act none (.px (some 18) (.bin .neq (.v 16) (.v 17)))) .done) K7_20) K7_18
@[simp] def W7_21 := @C.wpe _ _ K7_21.eq_1
def K7_22 : C := .seq (.pl <| .st (.ext 16 0) <|
    .st (.act none (.px (some 3) (.mv (.c (.bool false))))) .done) (.ret)
@[simp] def W7_22 := @C.wpe _ _ K7_22.eq_1
def K7_23 : C := .cond 16 (.v 17) K7_22 (.skip)
@[simp] def W7_23 := @C.wpe _ _ K7_23.eq_1
def K7_24 : C := .seq (.seq (.pl <| .st (.ext 16 2) <|
    .st (.act none (.px (some 16) (.mv (.v 13)))) <|
    .st (.act none (.px (some 17) (.bin .lss (.v 16) (.c (.int .i64 0))))) .done) K7_23) K7_21
@[simp] def W7_24 := @C.wpe _ _ K7_24.eq_1
def K7_25 : Pl := .st (.act none (.px (some 13) (.mv (.v 18)))) .done
@[simp] def W7_25 := @Pl.wpe _ _ K7_25.eq_1
def K7_26 : C := .seq (.pl <| .st (.ext 16 3) <|
    .st (.act none (.pget (some 16) none 9 0 (some 2))) <|
    .st (.act none (.px (some 17) (.mv (.v 13)))) <|
    .st (.act none (.ex (some 18) (.call fn_laws_heldLasso [.v 16, .v 17]))) K7_25) K7_24
@[simp] def W7_26 := @C.wpe _ _ K7_26.eq_1
def K7_27 : C := .seq (.pl <| .st (.ext 16 0) <|
    .st (.act none (.px (some 13) (.mv (.c (.int .i64 1))))) .done) K7_26
@[simp] def W7_27 := @C.wpe _ _ K7_27.eq_1
def K7_28 : Pl := .st (.act none (.px (some 12) (.mv (.v 18)))) .done
@[simp] def W7_28 := @Pl.wpe _ _ K7_28.eq_1
def K7_29 : C := .seq (.pl <| .st (.ext 16 3) <|
    .st (.act none (.pget (some 16) none 9 0 (some 2))) <|
    .st (.act none (.px (some 17) (.mv (.v 12)))) <|
    .st (.act none (.ex (some 18) (.call fn_laws_markLasso [.v 16, .v 17]))) K7_28) K7_27
@[simp] def W7_29 := @C.wpe _ _ K7_29.eq_1
def K7_30 : C := .seq (.pl <| .st (.ext 16 0) <|
    .st (.act none (.px (some 12) (.mv (.c (.int .i64 1))))) .done) K7_29
@[simp] def W7_30 := @C.wpe _ _ K7_30.eq_1
def K7_31 : C := .seq (.pl <| .st (.ext 16 0) <|
    .st (.act none (.px (some 3) (.mv (.c (.bool false))))) .done) (.ret)
@[simp] def W7_31 := @C.wpe _ _ K7_31.eq_1
def K7_32 : C := .cond 16 (.v 28) K7_31 (.skip)
@[simp] def W7_32 := @C.wpe _ _ K7_32.eq_1
def K7_33 : Pl := .st (.act (some (.v 18, false)) (.px (some 22) (.un .not (.v 21)))) <|
    .st (.act none (.px (some 23) (.pick (.v 18) (.c (.bool true)) (.v 22)))) <|
    .st (.act none (.px (some 24) (.mv (.v 23)))) <|
    .st (.act (some (.v 24, false)) (.px (some 25) (.mv (.v 10)))) <|
    .st (.act (some (.v 24, false)) (.px (some 26) (.mv (.v 6)))) <|
    .st (.act (some (.v 24, false)) (.px (some 27) (.eqb true (.v 25) (.v 26)))) <|
    .st (.act none (.px (some 28) (.pick (.v 24) (.c (.bool true)) (.v 27)))) .done
@[simp] def W7_33 := @Pl.wpe _ _ K7_33.eq_1
def K7_34 : C := .seq (.seq (.pl <| .st (.ext 16 13) <|
    .st (.act none (.px (some 16) (.mv (.v 11)))) <|
    .st (.act none (.px (some 17) (.bin .lss (.v 16) (.c (.int .i64 0))))) <|
    .st (.act none (.px (some 18) (.mv (.v 17)))) <|
    .st (.act (some (.v 18, false)) (.pget (some 19) none 9 0 (some 2))) <|
    .st (.act (some (.v 18, false)) (.pget (some 20) none 5 0 (some 2))) <|
    .st (.act (some (.v 18, false)) (.ex (some 21) (.call fn_laws_eqLasso [.v 19, .v 20]))) K7_33) K7_32) K7_30
@[simp] def W7_34 := @C.wpe _ _ K7_34.eq_1
def K7_35 : Pl := .st (.act none (.px (some 11) (.mv (.v 18)))) .done
@[simp] def W7_35 := @Pl.wpe _ _ K7_35.eq_1
def K7_36 : C := .seq (.pl <| .st (.ext 16 3) <|
    .st (.act none (.px (some 16) (.mv (.v 8)))) <|
    .st (.act none (.px (some 17) (.mv (.v 11)))) <|
    .st (.act none (.ex (some 18) (.call fn_laws_markIntS [.v 16, .v 17]))) K7_35) K7_34
@[simp] def W7_36 := @C.wpe _ _ K7_36.eq_1
def K7_37 : Pl := .st (.act none (.px (some 11) (.mv (.v 18)))) .done
@[simp] def W7_37 := @Pl.wpe _ _ K7_37.eq_1
def K7_38 : C := .seq (.pl <| .st (.ext 16 3) <|
    .st (.act none (.pget (some 16) none 7 0 (some 3))) <|
    .st (.act none (.px (some 17) (.mv (.v 11)))) <|
    .st (.act none (.ex (some 18) (.call fn_laws_markAutomaton [.v 16, .v 17]))) K7_37) K7_36
@[simp] def W7_38 := @C.wpe _ _ K7_38.eq_1
def K7_39 : C := .seq (.pl <| .st (.ext 16 0) <|
    .st (.act none (.px (some 11) (.mv (.c (.int .i64 1))))) .done) K7_38
@[simp] def W7_39 := @C.wpe _ _ K7_39.eq_1
def K7_40 : C := .seq (.pl <| .st (.ext 16 0) <|
    .st (.act none (.px (some 3) (.mv (.c (.bool false))))) .done) (.ret)
@[simp] def W7_40 := @C.wpe _ _ K7_40.eq_1
def K7_41 : C := .cond 16 (.v 20) K7_40 (.skip)
@[simp] def W7_41 := @C.wpe _ _ K7_41.eq_1
def K7_42 : Pl := .st (.act none (.px (some 20) (.un .not (.v 19)))) .done
@[simp] def W7_42 := @Pl.wpe _ _ K7_42.eq_1
def K7_43 : Pl := .st (.act none (.ex (some 19) (.call fn_laws_eqIntS [.v 16, .v 18]))) K7_42
@[simp] def W7_43 := @Pl.wpe _ _ K7_43.eq_1
def K7_44 : C := .seq (.seq (.pl <| .st (.ext 16 5) <|
    .st (.act none (.px (some 16) (.mv (.v 8)))) <|
    .st (.act none (.px (some 17) (.mv (.v 1)))) <|
    .st (.act none (.ex (some 18) (.call fn_laws_toIntS [.v 17]))) K7_43) K7_41) K7_39
@[simp] def W7_44 := @C.wpe _ _ K7_44.eq_1
def K7_45 : C := .seq (.pl <| .st (.ext 16 0) <|
    .st (.act none (.px (some 3) (.mv (.c (.bool false))))) .done) (.ret)
@[simp] def W7_45 := @C.wpe _ _ K7_45.eq_1
def K7_46 : C := .cond 16 (.v 20) K7_45 (.skip)
@[simp] def W7_46 := @C.wpe _ _ K7_46.eq_1
def K7_47 : Pl := .st (.act none (.px (some 20) (.un .not (.v 19)))) .done
@[simp] def W7_47 := @Pl.wpe _ _ K7_47.eq_1
def K7_48 : Pl := .st (.act none (.ex (some 19) (.call fn_laws_eqAutomaton [.v 16, .v 18]))) K7_47
@[simp] def W7_48 := @Pl.wpe _ _ K7_48.eq_1
def K7_49 : C := .seq (.seq (.pl <| .st (.ext 16 5) <|
    .st (.act none (.pget (some 16) none 7 0 (some 3))) <|
    .st (.act none (.pget (some 17) none 2 0 (some 3))) <|
    .st (.act none (.ex (some 18) (.call fn_laws_toAutomaton [.v 17]))) K7_48) K7_46) K7_44
@[simp] def W7_49 := @C.wpe _ _ K7_49.eq_1
def K7_50 : C := .seq (.pl <| .st (.ext 16 0) <|
    .st (.act none (.px (some 3) (.mv (.c (.bool false))))) .done) (.ret)
@[simp] def W7_50 := @C.wpe _ _ K7_50.eq_1
def K7_51 : C := .cond 16 (.v 24) K7_50 (.skip)
@[simp] def W7_51 := @C.wpe _ _ K7_51.eq_1
def K7_52 : Pl := .st (.act none (.px (some 19) (.un .not (.v 18)))) <|
    .st (.act none (.px (some 20) (.mv (.v 19)))) <|
    .st (.act (some (.v 20, false)) (.px (some 21) (.mv (.v 10)))) <|
    .st (.act (some (.v 20, false)) (.px (some 22) (.mv (.v 6)))) <|
    .st (.act (some (.v 20, false)) (.px (some 23) (.eqb true (.v 21) (.v 22)))) <|
    .st (.act none (.px (some 24) (.pick (.v 20) (.c (.bool true)) (.v 23)))) .done
@[simp] def W7_52 := @Pl.wpe _ _ K7_52.eq_1
def K7_53 : C := .seq (.seq (.pl <| .st (.ext 16 9) <|
    .st (.act none (.pget (some 16) none 9 0 (some 2))) <|
    .st (.act none (.pget (some 17) none 5 0 (some 2))) <|
    .st (.act none (.ex (some 18) (.call fn_laws_eqLasso [.v 16, .v 17]))) K7_52) K7_51) K7_49
@[simp] def W7_53 := @C.wpe _ _ K7_53.eq_1
def K7_54 : Pl := .st (.act none (.px (some 19) (.mv (.v 18)))) <|
    .st (.act none (.px (some 20) (.extract 0 (.v 19)))) <|
    .st (.act none (.px (some 21) (.extract 1 (.v 19)))) <|
    .st (.act none (.pnew 9 (.c (.agg #[.slice none 0 0, .slice none 0 0])) [])) <|
    .st (.act none (.pset none 9 0 2 (.v 20))) <|
    .st (.act none (.px (some 10) (.mv (.v 21)))) .done
@[simp] def W7_54 := @Pl.wpe _ _ K7_54.eq_1
def K7_55 : C := .seq (.pl <| .st (.ext 16 6) <|
    .st (.act none (.pget (some 16) none 7 0 (some 3))) <|
    .st (.act none (.px (some 17) (.mv (.v 8)))) <|
    .st (.act none (.ex (some 18) (.call fn_impl_ExtendWord [.v 16, .v 17]))) K7_54) K7_53
@[simp] def W7_55 := @C.wpe _ _ K7_55.eq_1
def K7_56 : Pl := .st (.act none (.px (some 8) (.mv (.v 17)))) .done
@[simp] def W7_56 := @Pl.wpe _ _ K7_56.eq_1
def K7_57 : C := .seq (.pl <| .st (.ext 16 2) <|
    .st (.act none (.px (some 16) (.mv (.v 1)))) <|
    .st (.act none (.ex (some 17) (.call fn_laws_toIntS [.v 16]))) K7_56) K7_55
@[simp] def W7_57 := @C.wpe _ _ K7_57.eq_1
def K7_58 : Pl := .st (.act none (.pnew 7 (.c (.agg #[.slice none 0 0, .slice none 0 0, .slice none 0 0])) [])) <|
    .st (.act none (.pset none 7 0 3 (.v 17))) .done
@[simp] def W7_58 := @Pl.wpe _ _ K7_58.eq_1
def K7_59 : C := .seq (.pl <| .st (.ext 16 2) <|
    .st (.act none (.pget (some 16) none 2 0 (some 3))) <|
    .st (.act none (.ex (some 17) (.call fn_laws_toAutomaton [.v 16]))) K7_58) K7_57
@[simp] def W7_59 := @C.wpe _ _ K7_59.eq_1
def K7_60 : Pl := .st (.act none (.px (some 21) (.mv (.v 20)))) <|
    .st (.act none (.px (some 22) (.extract 0 (.v 21)))) <|
    .st (.act none (.px (some 23) (.extract 1 (.v 21)))) <|
    .st (.act none (.pnew 5 (.c (.agg #[.slice none 0 0, .slice none 0 0])) [])) <|
    .st (.act none (.pset none 5 0 2 (.v 22))) <|
    .st (.act none (.px (some 6) (.mv (.v 23)))) .done
@[simp] def W7_60 := @Pl.wpe _ _ K7_60.eq_1
def K7_61 : Pl := .st (.act none (.ex (some 20) (.call fn_spec_ExtendWord [.v 17, .v 19]))) K7_60
@[simp] def W7_61 := @Pl.wpe _ _ K7_61.eq_1
def K7_62 : Pl := .st (.act none (.px (some 18) (.mv (.v 1)))) <|
    .st (.act none (.ex (some 19) (.call fn_laws_toIntS [.v 18]))) K7_61
@[simp] def W7_62 := @Pl.wpe _ _ K7_62.eq_1
def K7_63 : C := .seq (.pl <| .st (.ext 16 8) <|
    .st (.act none (.pget (some 16) none 2 0 (some 3))) <|
    .st (.act none (.ex (some 17) (.call fn_laws_toAutomaton [.v 16]))) K7_62) K7_59
@[simp] def W7_63 := @C.wpe _ _ K7_63.eq_1
def K7_64 : C := .seq (.pl <| .st (.ext 16 0) <|
    .st (.act none (.px (some 3) (.mv (.c (.bool true))))) .done) (.ret)
@[simp] def W7_64 := @C.wpe _ _ K7_64.eq_1
def K7_65 : C := .cond 16 (.v 17) K7_64 (.skip)
@[simp] def W7_65 := @C.wpe _ _ K7_65.eq_1
def K7_66 : C := .seq (.seq (.pl <| .st (.ext 16 2) <|
    .st (.act none (.px (some 16) (.mv (.v 4)))) <|
    .st (.act none (.px (some 17) (.bin .lss (.v 16) (.c (.int .i64 0))))) .done) K7_65) K7_63
@[simp] def W7_66 := @C.wpe _ _ K7_66.eq_1
def K7_67 : Pl := .st (.act none (.px (some 4) (.mv (.v 18)))) .done
@[simp] def W7_67 := @Pl.wpe _ _ K7_67.eq_1
def K7_68 : C := .seq (.pl <| .st (.ext 16 3) <|
    .st (.act none (.pget (some 16) none 2 0 (some 3))) <|
    .st (.act none (.px (some 17) (.mv (.v 4)))) <|
    .st (.act none (.ex (some 18) (.call fn_laws_szAutomaton [.v 16, .v 17]))) K7_67) K7_66
@[simp] def W7_68 := @C.wpe _ _ K7_68.eq_1
def K7_69 : C := .seq (.pl <| .st (.ext 16 0) <|
    .st (.act none (.px (some 4) (.mv (.c (.int .i64 1048576))))) .done) K7_68
@[simp] def W7_69 := @C.wpe _ _ K7_69.eq_1
def K7_70 : C := .seq (.pl <| .st (.ext 16 0) <|
    .st (.act none (.px (some 3) (.mv (.c (.bool true))))) .done) (.ret)
@[simp] def W7_70 := @C.wpe _ _ K7_70.eq_1
def K7_71 : C := .cond 16 (.v 18) K7_70 (.skip)
@[simp] def W7_71 := @C.wpe _ _ K7_71.eq_1
def K7_72 : C := .seq (.seq (.pl <| .st (.ext 16 3) <|
    .st (.act none (.px (some 16) (.mv (.v 1)))) <|
    .st (.act none (.px (some 17) (.lenV (.v 16)))) <|
    .st (.act none (.px (some 18) (.bin .gtr (.v 17) (.c (.int .i64 1048576))))) .done) K7_71) K7_69
@[simp] def W7_72 := @C.wpe _ _ K7_72.eq_1
def B_laws_FnExactExtendWord : C := .seq (.pl <| .st (.ext 16 0) <|
    .st (.act none (.pnew 2 (.v 0) [])) <|
    .st (.act none (.px (some 3) (.mv (.c (.bool false))))) .done) K7_72
@[simp] def WB_laws_FnExactExtendWord := @C.wpe _ _ B_laws_FnExactExtendWord.eq_1
def R_laws_FnExactExtendWord : FIR := ⟨B_laws_FnExactExtendWord, 16, [(3, none)]⟩
theorem IR_laws_FnExactExtendWord : cfun Try.prog H_laws_FnExactExtendWord Try.f7 = some R_laws_FnExactExtendWord := by kernel_rfl
theorem EN_laws_FnExactExtendWord {args : List Value} {h : Heap} {k : Value → Heap → Prop} (hargs : args.length = 2) (hw : B_laws_FnExactExtendWord.wp Try.prog (retQ [(3, none)] k) (env0 args 16) h) : CallE Try.prog fn_laws_FnExactExtendWord args h k := enter Try.func7 rfl IR_laws_FnExactExtendWord hargs hw

def H_laws_FnExactMergeStates : Hint := ⟨[(0, false), (1, true), (2, false), (3, false), (4, true), (5, false), (6, true), (7, true), (8, false), (9, false), (10, false), (11, false), (12, true), (13, false)], []⟩
def K5_1 : C := .seq (.pl <| .st (.ext 14 0) <|
    .st (.act none (.px (some 2) (.mv (.c (.bool true))))) .done) (.ret)
@[simp] def W5_1 := @C.wpe _ _ K5_1.eq_1
def K5_2 : C := .seq (.pl <| .st (.ext 14 0) <|
    .st (.act none (.px (some 2) (.mv (.c (.bool false))))) .done) (.ret)
@[simp] def W5_2 := @C.wpe _ _ K5_2.eq_1
def K5_3 : C := .cond 14 (.v 16) K5_2 (.skip)
@[simp] def W5_3 := @C.wpe _ _ K5_3.eq_1
def K5_4 : C := .seq (.seq (.pl <| .st (.ext 14 3) <|
    .st (.act none (.px (some 14) (.mv (.v 11)))) <|
    .st (.act none (.px (some 15) (.mv (.v 10)))) <|
    .st (.act none (.px (some 16) (.bin .neq (.v 14) (.v 15)))) .done) K5_3) K5_1
@[simp] def W5_4 := @C.wpe _ _ K5_4.eq_1
def K5_5 : C := .seq (.pl <| .st (.ext 14 0) <|
    .st (.act none (.px (some 2) (.mv (.c (.bool false))))) .done) (.ret)
@[simp] def W5_5 := @C.wpe _ _ K5_5.eq_1
def K5_6 : C := .cond 14 (.v 15) K5_5 (.skip)
@[simp] def W5_6 := @C.wpe _ _ K5_6.eq_1
def K5_7 : C := .seq (.seq (.pl <| .st (.ext 14 2) <|
    .st (.act none (.px (some 14) (.mv (.v 11)))) <|
    .st (.act none (.px (some 15) (.bin .lss (.v 14) (.c (.int .i64 0))))) .done) K5_6) K5_4
@[simp] def W5_7 := @C.wpe _ _ K5_7.eq_1
def K5_8 : Pl := .st (.act none (.px (some 11) (.mv (.v 16)))) .done
@[simp] def W5_8 := @Pl.wpe _ _ K5_8.eq_1
def K5_9 : C := .seq (.pl <| .st (.ext 14 3) <|
    .st (.act none (.pget (some 14) none 7 0 (some 3))) <|
    .st (.act none (.px (some 15) (.mv (.v 11)))) <|
    .st (.act none (.ex (some 16) (.call fn_laws_heldAutomaton [.v 14, .v 15]))) K5_8) K5_7
@[simp] def W5_9 := @C.wpe _ _ K5_9.eq_1
def K5_10 : C := .seq (.pl <| .st (.ext 14 0) <|
    .st (.act none (.px (some 11) (.mv (.c (.int .i64 1))))) .done) K5_9
@[simp] def W5_10 := @C.wpe _ _ K5_10.eq_1
def K5_11 : C := .seq (.pl <| .st (.ext 14 0) <|
    .st (.act none (.px (some 2) (.mv (.c (.bool false))))) .done) (.ret)
@[simp] def W5_11 := @C.wpe _ _ K5_11.eq_1
def K5_12 : C := .cond 14 (.v 22) K5_11 (.skip)
@[simp] def W5_12 := @C.wpe _ _ K5_12.eq_1
def K5_13 : Pl := .st (.act none (.px (some 17) (.un .not (.v 16)))) <|
    .st (.act none (.px (some 18) (.mv (.v 17)))) <|
    .st (.act (some (.v 18, false)) (.px (some 19) (.mv (.v 13)))) <|
    .st (.act (some (.v 18, false)) (.px (some 20) (.mv (.v 5)))) <|
    .st (.act (some (.v 18, false)) (.px (some 21) (.eqb true (.v 19) (.v 20)))) <|
    .st (.act none (.px (some 22) (.pick (.v 18) (.c (.bool true)) (.v 21)))) .done
@[simp] def W5_13 := @Pl.wpe _ _ K5_13.eq_1
def K5_14 : C := .seq (.seq (.pl <| .st (.ext 14 9) <|
    .st (.act none (.pget (some 14) none 12 0 (some 3))) <|
    .st (.act none (.pget (some 15) none 4 0 (some 3))) <|
    .st (.act none (.ex (some 16) (.call fn_laws_eqAutomaton [.v 14, .v 15]))) K5_13) K5_12) K5_10
@[simp] def W5_14 := @C.wpe _ _ K5_14.eq_1
def K5_15 : Pl := .st (.act none (.px (some 17) (.mv (.v 16)))) <|
    .st (.act none (.px (some 18) (.extract 0 (.v 17)))) <|
    .st (.act none (.px (some 19) (.extract 1 (.v 17)))) <|
    .st (.act none (.pnew 12 (.c (.agg #[.slice none 0 0, .slice none 0 0, .slice none 0 0])) [])) <|
    .st (.act none (.pset none 12 0 3 (.v 18))) <|
    .st (.act none (.px (some 13) (.mv (.v 19)))) .done
@[simp] def W5_15 := @Pl.wpe _ _ K5_15.eq_1
def K5_16 : Pl := .st (.act none (.ex (some 16) (.call fn_impl_MergeStates [.v 15]))) K5_15
@[simp] def W5_16 := @Pl.wpe _ _ K5_16.eq_1
def K5_17 : C := .seq (.pl <| .st (.ext 14 6) <|
    .st (.act none (.pget (some 14) none 1 0 (some 3))) <|
    .st (.act none (.ex (some 15) (.call fn_laws_toAutomaton [.v 14]))) K5_16) K5_14
@[simp] def W5_17 := @C.wpe _ _ K5_17.eq_1
def K5_18 : C := .seq (.pl <| .st (.ext 14 0) <|
    .st (.act none (.px (some 2) (.mv (.c (.bool false))))) .done) (.ret)
@[simp] def W5_18 := @C.wpe _ _ K5_18.eq_1
def K5_19 : C := .cond 14 (.v 16) K5_18 (.skip)
@[simp] def W5_19 := @C.wpe _ _ K5_19.eq_1
def K5_20 : C := .seq (.seq (.pl <| .st (.ext 14 3) <|
    .st (.act none (.px (some 14) (.mv (.v 11)))) <|
    .st (.act none (.px (some 15) (.mv (.v 10)))) <|
    .st (.act none (.px (some 16) (.bin .neq (.v 14) (.v 15)))) .done) K5_19) K5_17
@[simp] def W5_20 := @C.wpe _ _ K5_20.eq_1
def K5_21 : C := .seq (.pl <| .st (.ext 14 0) <|
    .st (.act none (.px (some 2) (.mv (.c (.bool false))))) .done) (.ret)
@[simp] def W5_21 := @C.wpe _ _ K5_21.eq_1
def K5_22 : C := .cond 14 (.v 15) K5_21 (.skip)
@[simp] def W5_22 := @C.wpe _ _ K5_22.eq_1
def K5_23 : C := .seq (.seq (.pl <| .st (.ext 14 2) <|
    .st (.act none (.px (some 14) (.mv (.v 11)))) <|
    .st (.act none (.px (some 15) (.bin .lss (.v 14) (.c (.int .i64 0))))) .done) K5_22) K5_20
@[simp] def W5_23 := @C.wpe _ _ K5_23.eq_1
def K5_24 : Pl := .st (.act none (.px (some 11) (.mv (.v 16)))) .done
@[simp] def W5_24 := @Pl.wpe _ _ K5_24.eq_1
def K5_25 : C := .seq (.pl <| .st (.ext 14 3) <|
    .st (.act none (.pget (some 14) none 7 0 (some 3))) <|
    .st (.act none (.px (some 15) (.mv (.v 11)))) <|
    .st (.act none (.ex (some 16) (.call fn_laws_heldAutomaton [.v 14, .v 15]))) K5_24) K5_23
@[simp] def W5_25 := @C.wpe _ _ K5_25.eq_1
def K5_26 : C := .seq (.pl <| .st (.ext 14 0) <|
    .st (.act none (.px (some 11) (.mv (.c (.int .i64 1))))) .done) K5_25
@[simp] def W5_26 := @C.wpe _ _ K5_26.eq_1
def K5_27 : Pl := .st (.act none (.px (some 10) (.mv (.v 16)))) .done
@[simp] def W5_27 := @Pl.wpe _ _ K5_27.eq_1
def K5_28 : C := .seq (.pl <| .st (.ext 14 3) <|
    .st (.act none (.pget (some 14) none 7 0 (some 3))) <|
    .st (.act none (.px (some 15) (.mv (.v 10)))) <|
    .st (.act none (.ex (some 16) (.call fn_laws_markAutomaton [.v 14, .v 15]))) K5_27) K5_26
@[simp] def W5_28 := @C.wpe _ _ K5_28.eq_1
def K5_29 : C := .seq (.pl <| .st (.ext 14 0) <|
    .st (.act none (.px (some 10) (.mv (.c (.int .i64 1))))) .done) K5_28
@[simp] def W5_29 := @C.wpe _ _ K5_29.eq_1
def K5_30 : C := .seq (.pl <| .st (.ext 14 0) <|
    .st (.act none (.px (some 2) (.mv (.c (.bool false))))) .done) (.ret)
@[simp] def W5_30 := @C.wpe _ _ K5_30.eq_1
def K5_31 : C := .cond 14 (.v 26) K5_30 (.skip)
@[simp] def W5_31 := @C.wpe _ _ K5_31.eq_1
def K5_32 : Pl := .st (.act (some (.v 16, false)) (.px (some 20) (.un .not (.v 19)))) <|
    .st (.act none (.px (some 21) (.pick (.v 16) (.c (.bool true)) (.v 20)))) <|
    .st (.act none (.px (some 22) (.mv (.v 21)))) <|
    .st (.act (some (.v 22, false)) (.px (some 23) (.mv (.v 8)))) <|
    .st (.act (some (.v 22, false)) (.px (some 24) (.mv (.v 5)))) <|
    .st (.act (some (.v 22, false)) (.px (some 25) (.eqb true (.v 23) (.v 24)))) <|
    .st (.act none (.px (some 26) (.pick (.v 22) (.c (.bool true)) (.v 25)))) .done
@[simp] def W5_32 := @Pl.wpe _ _ K5_32.eq_1
def K5_33 : C := .seq (.seq (.pl <| .st (.ext 14 13) <|
    .st (.act none (.px (some 14) (.mv (.v 9)))) <|
    .st (.act none (.px (some 15) (.bin .lss (.v 14) (.c (.int .i64 0))))) <|
    .st (.act none (.px (some 16) (.mv (.v 15)))) <|
    .st (.act (some (.v 16, false)) (.pget (some 17) none 7 0 (some 3))) <|
    .st (.act (some (.v 16, false)) (.pget (some 18) none 4 0 (some 3))) <|
    .st (.act (some (.v 16, false)) (.ex (some 19) (.call fn_laws_eqAutomaton [.v 17, .v 18]))) K5_32) K5_31) K5_29
@[simp] def W5_33 := @C.wpe _ _ K5_33.eq_1
def K5_34 : Pl := .st (.act none (.px (some 9) (.mv (.v 16)))) .done
@[simp] def W5_34 := @Pl.wpe _ _ K5_34.eq_1
def K5_35 : C := .seq (.pl <| .st (.ext 14 3) <|
    .st (.act none (.pget (some 14) none 6 0 (some 3))) <|
    .st (.act none (.px (some 15) (.mv (.v 9)))) <|
    .st (.act none (.ex (some 16) (.call fn_laws_markAutomaton [.v 14, .v 15]))) K5_34) K5_33
@[simp] def W5_35 := @C.wpe _ _ K5_35.eq_1
def K5_36 : C := .seq (.pl <| .st (.ext 14 0) <|
    .st (.act none (.px (some 9) (.mv (.c (.int .i64 1))))) .done) K5_35
@[simp] def W5_36 := @C.wpe _ _ K5_36.eq_1
def K5_37 : C := .seq (.pl <| .st (.ext 14 0) <|
    .st (.act none (.px (some 2) (.mv (.c (.bool false))))) .done) (.ret)
@[simp] def W5_37 := @C.wpe _ _ K5_37.eq_1
def K5_38 : C := .cond 14 (.v 18) K5_37 (.skip)
@[simp] def W5_38 := @C.wpe _ _ K5_38.eq_1
def K5_39 : Pl := .st (.act none (.px (some 18) (.un .not (.v 17)))) .done
@[simp] def W5_39 := @Pl.wpe _ _ K5_39.eq_1
def K5_40 : Pl := .st (.act none (.ex (some 17) (.call fn_laws_eqAutomaton [.v 14, .v 16]))) K5_39
@[simp] def W5_40 := @Pl.wpe _ _ K5_40.eq_1
def K5_41 : C := .seq (.seq (.pl <| .st (.ext 14 5) <|
    .st (.act none (.pget (some 14) none 6 0 (some 3))) <|
    .st (.act none (.pget (some 15) none 1 0 (some 3))) <|
    .st (.act none (.ex (some 16) (.call fn_laws_toAutomaton [.v 15]))) K5_40) K5_38) K5_36
@[simp] def W5_41 := @C.wpe _ _ K5_41.eq_1
def K5_42 : C := .seq (.pl <| .st (.ext 14 0) <|
    .st (.act none (.px (some 2) (.mv (.c (.bool false))))) .done) (.ret)
@[simp] def W5_42 := @C.wpe _ _ K5_42.eq_1
def K5_43 : C := .cond 14 (.v 22) K5_42 (.skip)
@[simp] def W5_43 := @C.wpe _ _ K5_43.eq_1
def K5_44 : Pl := .st (.act none (.px (some 17) (.un .not (.v 16)))) <|
    .st (.act none (.px (some 18) (.mv (.v 17)))) <|
    .st (.act (some (.v 18, false)) (.px (some 19) (.mv (.v 8)))) <|
    .st (.act (some (.v 18, false)) (.px (some 20) (.mv (.v 5)))) <|
    .st (.act (some (.v 18, false)) (.px (some 21) (.eqb true (.v 19) (.v 20)))) <|
    .st (.act none (.px (some 22) (.pick (.v 18) (.c (.bool true)) (.v 21)))) .done
@[simp] def W5_44 := @Pl.wpe _ _ K5_44.eq_1
def K5_45 : C := .seq (.seq (.pl <| .st (.ext 14 9) <|
    .st (.act none (.pget (some 14) none 7 0 (some 3))) <|
    .st (.act none (.pget (some 15) none 4 0 (some 3))) <|
    .st (.act none (.ex (some 16) (.call fn_laws_eqAutomaton [.v 14, .v 15]))) K5_44) K5_43) K5_41
@[simp] def W5_45 := @C.wpe _ _ K5_45.eq_1
def K5_46 : Pl := .st (.act none (.px (some 16) (.mv (.v 15)))) <|
    .st (.act none (.px (some 17) (.extract 0 (.v 16)))) <|
    .st (.act none (.px (some 18) (.extract 1 (.v 16)))) <|
    .st (.act none (.pnew 7 (.c (.agg #[.slice none 0 0, .slice none 0 0, .slice none 0 0])) [])) <|
    .st (.act none (.pset none 7 0 3 (.v 17))) <|
    .st (.act none (.px (some 8) (.mv (.v 18)))) .done
@[simp] def W5_46 := @Pl.wpe _ _ K5_46.eq_1
def K5_47 : C := .seq (.pl <| .st (.ext 14 5) <|
    .st (.act none (.pget (some 14) none 6 0 (some 3))) <|
    .st (.act none (.ex (some 15) (.call fn_impl_MergeStates [.v 14]))) K5_46) K5_45
@[simp] def W5_47 := @C.wpe _ _ K5_47.eq_1
def K5_48 : Pl := .st (.act none (.pnew 6 (.c (.agg #[.slice none 0 0, .slice none 0 0, .slice none 0 0])) [])) <|
    .st (.act none (.pset none 6 0 3 (.v 15))) .done
@[simp] def W5_48 := @Pl.wpe _ _ K5_48.eq_1
def K5_49 : C := .seq (.pl <| .st (.ext 14 2) <|
    .st (.act none (.pget (some 14) none 1 0 (some 3))) <|
    .st (.act none (.ex (some 15) (.call fn_laws_toAutomaton [.v 14]))) K5_48) K5_47
@[simp] def W5_49 := @C.wpe _ _ K5_49.eq_1
def K5_50 : Pl := .st (.act none (.px (some 17) (.mv (.v 16)))) <|
    .st (.act none (.px (some 18) (.extract 0 (.v 17)))) <|
    .st (.act none (.px (some 19) (.extract 1 (.v 17)))) <|
    .st (.act none (.pnew 4 (.c (.agg #[.slice none 0 0, .slice none 0 0, .slice none 0 0])) [])) <|
    .st (.act none (.pset none 4 0 3 (.v 18))) <|
    .st (.act none (.px (some 5) (.mv (.v 19)))) .done
@[simp] def W5_50 := @Pl.wpe _ _ K5_50.eq_1
def K5_51 : Pl := .st (.act none (.ex (some 16) (.call fn_spec_MergeStates [.v 15]))) K5_50
@[simp] def W5_51 := @Pl.wpe _ _ K5_51.eq_1
def K5_52 : C := .seq (.pl <| .st (.ext 14 6) <|
    .st (.act none (.pget (some 14) none 1 0 (some 3))) <|
    .st (.act none (.ex (some 15) (.call fn_laws_toAutomaton [.v 14]))) K5_51) K5_49
@[simp] def W5_52 := @C.wpe _ _ K5_52.eq_1
def K5_53 : C := .seq (.pl <| .st (.ext 14 0) <|
    .st (.act none (.px (some 2) (.mv (.c (.bool true))))) .done) (.ret)
@[simp] def W5_53 := @C.wpe _ _ K5_53.eq_1
def K5_54 : C := .cond 14 (.v 15) K5_53 (.skip)
@[simp] def W5_54 := @C.wpe _ _ K5_54.eq_1
def K5_55 : C := .seq (.seq (.pl <| .st (.ext 14 2) <|
    .st (.act none (.px (some 14) (.mv (.v 3)))) <|
    .st (.act none (.px (some 15) (.bin .lss (.v 14) (.c (.int .i64 0))))) .done) K5_54) K5_52
@[simp] def W5_55 := @C.wpe _ _ K5_55.eq_1
def K5_56 : Pl := .st (.act none (.px (some 3) (.mv (.v 16)))) .done
@[simp] def W5_56 := @Pl.wpe _ _ K5_56.eq_1
def K5_57 : C := .seq (.pl <| .st (.ext 14 3) <|
    .st (.act none (.pget (some 14) none 1 0 (some 3))) <|
    .st (.act none (.px (some 15) (.mv (.v 3)))) <|
    .st (.act none (.ex (some 16) (.call fn_laws_szAutomaton [.v 14, .v 15]))) K5_56) K5_55
@[simp] def W5_57 := @C.wpe _ _ K5_57.eq_1
def K5_58 : C := .seq (.pl <| .st (.ext 14 0) <|
    .st (.act none (.px (some 3) (.mv (.c (.int .i64 1048576))))) .done) K5_57
@[simp] def W5_58 := @C.wpe _ _ K5_58.eq_1
def B_laws_FnExactMergeStates : C := .seq (.pl <| .st (.ext 14 0) <|
    .st (.act none (.pnew 1 (.v 0) [])) <|
    .st (.act none (.px (some 2) (.mv (.c (.bool false))))) .done) K5_58
@[simp] def WB_laws_FnExactMergeStates := @C.wpe _ _ B_laws_FnExactMergeStates.eq_1
def R_laws_FnExactMergeStates : FIR := ⟨B_laws_FnExactMergeStates, 14, [(2, none)]⟩
theorem IR_laws_FnExactMergeStates : cfun Try.prog H_laws_FnExactMergeStates Try.f5 = some R_laws_FnExactMergeStates := by kernel_rfl
theorem EN_laws_FnExactMergeStates {args : List Value} {h : Heap} {k : Value → Heap → Prop} (hargs : args.length = 1) (hw : B_laws_FnExactMergeStates.wp Try.prog (retQ [(2, none)] k) (env0 args 14) h) : CallE Try.prog fn_laws_FnExactMergeStates args h k := enter Try.func5 rfl IR_laws_FnExactMergeStates hargs hw

def H_laws_FnExactPrefixStates : Hint := ⟨[(0, false), (1, false), (2, true), (4, false), (5, false), (6, false), (7, false), (8, true), (9, false), (10, false), (11, false), (12, false), (13, false), (14, false), (15, false), (16, false)], []⟩
def K4_1 : C := .seq (.pl <| .st (.ext 16 0) <|
    .st (.act none (.px (some 3) (.mv (.c (.bool true))))) .done) (.ret)
@[simp] def W4_1 := @C.wpe _ _ K4_1.eq_1
def K4_2 : C := .seq (.pl <| .st (.ext 16 0) <|
    .st (.act none (.px (some 3) (.mv (.c (.bool false))))) .done) (.ret)
@[simp] def W4_2 := @C.wpe _ _ K4_2.eq_1
def K4_3 : C := .cond 16 (.v 18) K4_2 (.skip)
@[simp] def W4_3 := @C.wpe _ _ K4_3.eq_1
def K4_4 : C := .seq (.seq (.pl <| .st (.ext 16 3) <|
    .st (.act none (.px (some 16) (.mv (.v 13)))) <|
    .st (.act none (.px (some 17) (.mv (.v 12)))) <|
    .st (.act none (.px (some 18) (.bin .neq (.v 16) (.v 17)))) .done) K4_3) K4_1
@[simp] def W4_4 := @C.wpe _ _ K4_4.eq_1
def K4_5 : C := .seq (.pl <| .st (.ext 16 0) <|
    .st (.act none (.px (some 3) (.mv (.c (.bool false))))) .done) (.ret)
@[simp] def W4_5 := @C.wpe _ _ K4_5.eq_1
def K4_6 : C := .cond 16 (.v 17) K4_5 (.skip)
@[simp] def W4_6 := @C.wpe _ _ K4_6.eq_1
def K4_7 : C := .seq (.seq (.pl <| .st (.ext 16 2) <|
    .st (.act none (.px (some 16) (.mv (.v 13)))) <|
    .st (.act none (.px (some 17) (.bin .lss (.v 16) (.c (.int .i64 0))))) .done) K4_6) K4_4
@[simp] def W4_7 := @C.wpe _ _ K4_7.eq_1
def K4_8 : Pl := .st (.act none (.px (some 13) (.mv (.v 18)))) .done
@[simp] def W4_8 := @Pl.wpe _ _ K4_8.eq_1
def K4_9 : C := .seq (.pl <| .st (.ext 16 3) <|
    .st (.act none (.px (some 16) (.mv (.v 9)))) <|
    .st (.act none (.px (some 17) (.mv (.v 13)))) <|
    .st (.act none (.ex (some 18) (.call fn_laws_heldIntS [.v 16, .v 17]))) K4_8) K4_7
@[simp] def W4_9 := @C.wpe _ _ K4_9.eq_1
def K4_10 : C := .seq (.pl <| .st (.ext 16 0) <|
    .st (.act none (.px (some 13) (.mv (.c (.int .i64 1))))) .done) K4_9
@[simp] def W4_10 := @C.wpe _ _ K4_10.eq_1
def K4_11 : C := .seq (.pl <| .st (.ext 16 0) <|
    .st (.act none (.px (some 3) (.mv (.c (.bool false))))) .done) (.ret)
@[simp] def W4_11 := @C.wpe _ _ K4_11.eq_1
def K4_12 : C := .cond 16 (.v 24) K4_11 (.skip)
@[simp] def W4_12 := @C.wpe _ _ K4_12.eq_1
def K4_13 : Pl := .st (.act none (.px (some 19) (.un .not (.v 18)))) <|
    .st (.act none (.px (some 20) (.mv (.v 19)))) <|
    .st (.act (some (.v 20, false)) (.px (some 21) (.mv (.v 15)))) <|
    .st (.act (some (.v 20, false)) (.px (some 22) (.mv (.v 6)))) <|
    .st (.act (some (.v 20, false)) (.px (some 23) (.eqb true (.v 21) (.v 22)))) <|
    .st (.act none (.px (some 24) (.pick (.v 20) (.c (.bool true)) (.v 23)))) .done
@[simp] def W4_13 := @Pl.wpe _ _ K4_13.eq_1
def K4_14 : C := .seq (.seq (.pl <| .st (.ext 16 9) <|
    .st (.act none (.px (some 16) (.mv (.v 14)))) <|
    .st (.act none (.px (some 17) (.mv (.v 5)))) <|
    .st (.act none (.ex (some 18) (.call fn_laws_eqIntS [.v 16, .v 17]))) K4_13) K4_12) K4_10
@[simp] def W4_14 := @C.wpe _ _ K4_14.eq_1
def K4_15 : Pl := .st (.act none (.px (some 21) (.mv (.v 20)))) <|
    .st (.act none (.px (some 22) (.extract 0 (.v 21)))) <|
    .st (.act none (.px (some 23) (.extract 1 (.v 21)))) <|
    .st (.act none (.px (some 14) (.mv (.v 22)))) <|
    .st (.act none (.px (some 15) (.mv (.v 23)))) .done
@[simp] def W4_15 := @Pl.wpe _ _ K4_15.eq_1
def K4_16 : Pl := .st (.act none (.ex (some 20) (.call fn_impl_PrefixStates [.v 17, .v 19]))) K4_15
@[simp] def W4_16 := @Pl.wpe _ _ K4_16.eq_1
def K4_17 : Pl := .st (.act none (.px (some 18) (.mv (.v 1)))) <|
    .st (.act none (.ex (some 19) (.call fn_laws_toIntS [.v 18]))) K4_16
@[simp] def W4_17 := @Pl.wpe _ _ K4_17.eq_1
def K4_18 : C := .seq (.pl <| .st (.ext 16 8) <|
    .st (.act none (.pget (some 16) none 2 0 (some 3))) <|
    .st (.act none (.ex (some 17) (.call fn_laws_toAutomaton [.v 16]))) K4_17) K4_14
@[simp] def W4_18 := @C.wpe _ _ K4_18.eq_1
def K4_19 : C := .seq (.pl <| .st (.ext 16 0) <|
    .st (.act none (.px (some 3) (.mv (.c (.bool false))))) .done) (.ret)
@[simp] def W4_19 := @C.wpe _ _ K4_19.eq_1
def K4_20 : C := .cond 16 (.v 18) K4_19 (.skip)
@[simp] def W4_20 := @C.wpe _ _ K4_20.eq_1
def K4_21 : C := .seq (.seq (.pl <| .st (.ext 16 3) <|
    .st (.act none (.px (some 16) (.mv (.v 13)))) <|
    .st (.act none (.px (some 17) (.mv (.v 12)))) <|
    .st (.act none (.px (some 18) (.bin .neq (.v 16) (.v 17)))) .done) K4_20) K4_18
@[simp] def W4_21 := @C.wpe _ _ K4_21.eq_1
def K4_22 : C := .seq (.pl <| .st (.ext 16 0) <|
    .st (.act none (.px (some 3) (.mv (.c (.bool false))))) .done) (.ret)
@[simp] def W4_22 := @C.wpe _ _ K4_22.eq_1
def K4_23 : C := .cond 16 (.v 17) K4_22 (.skip)
@[simp] def W4_23 := @C.wpe _ _ K4_23.eq_1
def K4_24 : C := .seq (.seq (.pl <| .st (.ext 16 2) <|
    .st (.act none (.px (some 16) (.mv (.v 13)))) <|
    .st (.act none (.px (some 17) (.bin .lss (.v 16) (.c (.int .i64 0))))) .done) K4_23) K4_21
@[simp] def W4_24 := @C.wpe _ _ K4_24.eq_1
def K4_25 : Pl := .st (.act none (.px (some 13) (.mv (.v 18)))) .done
@[simp] def W4_25 := @Pl.wpe _ _ K4_25.eq_1
def K4_26 : C := .seq (.pl <| .st (.ext 16 3) <|
    .st (.act none (.px (some 16) (.mv (.v 9)))) <|
    .st (.act none (.px (some 17) (.mv (.v 13)))) <|
    .st (.act none (.ex (some 18) (.call fn_laws_heldIntS [.v 16, .v 17]))) K4_25) K4_24
@[simp] def W4_26 := @C.wpe _ _ K4_26.eq_1
def K4_27 : C := .seq (.pl <| .st (.ext 16 0) <|
    .st (.act none (.px (some 13) (.mv (.c (.int .i64 1))))) .done) K4_26
@[simp] def W4_27 := @C.wpe _ _ K4_27.eq_1
def K4_28 : Pl := .st (.act none (.px (some 12) (.mv (.v 18)))) .done
@[simp] def W4_28 := @Pl.wpe _ _ K4_28.eq_1
def K4_29 : C := .seq (.pl <| .st (.ext 16 3) <|
    .st (.act none (.px (some 16) (.mv (.v 9)))) <|
    .st (.act none (.px (some 17) (.mv (.v 12)))) <|
    .st (.act none (.ex (some 18) (.call fn_laws_markIntS [.v 16, .v 17]))) K4_28) K4_27
@[simp] def W4_29 := @C.wpe _ _ K4_29.eq_1
def K4_30 : C := .seq (.pl <| .st (.ext 16 0) <|
    .st (.act none (.px (some 12) (.mv (.c (.int .i64 1))))) .done) K4_29
@[simp] def W4_30 := @C.wpe _ _ K4_30.eq_1
def K4_31 : C := .seq (.pl <| .st (.ext 16 0) <|
    .st (.act none (.px (some 3) (.mv (.c (.bool false))))) .done) (.ret)
@[simp] def W4_31 := @C.wpe _ _ K4_31.eq_1
def K4_32 : C := .cond 16 (.v 28) K4_31 (.skip)
@[simp] def W4_32 := @C.wpe _ _ K4_32.eq_1
def K4_33 : Pl := .st (.act (some (.v 18, false)) (.px (some 22) (.un .not (.v 21)))) <|
    .st (.act none (.px (some 23) (.pick (.v 18) (.c (.bool true)) (.v 22)))) <|
    .st (.act none (.px (some 24) (.mv (.v 23)))) <|
    .st (.act (some (.v 24, false)) (.px (some 25) (.mv (.v 10)))) <|
    .st (.act (some (.v 24, false)) (.px (some 26) (.mv (.v 6)))) <|
    .st (.act (some (.v 24, false)) (.px (some 27) (.eqb true (.v 25) (.v 26)))) <|
    .st (.act none (.px (some 28) (.pick (.v 24) (.c (.bool true)) (.v 27)))) .done
@[simp] def W4_33 := @Pl.wpe _ _ K4_33.eq_1
def K4_34 : C := .seq (.seq (.pl <| .st (.ext 16 13) <|
    .st (.act none (.px (some 16) (.mv (.v 11)))) <|
    .st (.act none (.px (some 17) (.bin .lss (.v 16) (.c (.int .i64 0))))) <|
    .st (.act none (.px (some 18) (.mv (.v 17)))) <|
    .st (.act (some (.v 18, false)) (.px (some 19) (.mv (.v 9)))) <|
    .st (.act (some (.v 18, false)) (.px (some 20) (.mv (.v 5)))) <|
    .st (.act (some (.v 18, false)) (.ex (some 21) (.call fn_laws_eqIntS [.v 19, .v 20]))) K4_33) K4_32) K4_30
@[simp] def W4_34 := @C.wpe _ _ K4_34.eq_1
def K4_35 : Pl := .st (.act none (.px (some 11) (.mv (.v 18)))) .done
@[simp] def W4_35 := @Pl.wpe _ _ K4_35.eq_1
def K4_36 : C := .seq (.pl <| .st (.ext 16 3) <|
    .st (.act none (.px (some 16) (.mv (.v 8)))) <|
    .st (.act none (.px (some 17) (.mv (.v 11)))) <|
    .st (.act none (.ex (some 18) (.call fn_laws_markIntS [.v 16, .v 17]))) K4_35) K4_34
@[simp] def W4_36 := @C.wpe _ _ K4_36.eq_1
def K4_37 : Pl := .st (.act none (.px (some 11) (.mv (.v 18)))) .done
@[simp] def W4_37 := @Pl.wpe _ _ K4_37.eq_1
def K4_38 : C := .seq (.pl <| .st (.ext 16 3) <|
    .st (.act none (.pget (some 16) none 7 0 (some 3))) <|
    .st (.act none (.px (some 17) (.mv (.v 11)))) <|
    .st (.act none (.ex (some 18) (.call fn_laws_markAutomaton [.v 16, .v 17]))) K4_37) K4_36
@[simp] def W4_38 := @C.wpe _ _ K4_38.eq_1
def K4_39 : C := .seq (.pl <| .st (.ext 16 0) <|
    .st (.act none (.px (some 11) (.mv (.c (.int .i64 1))))) .done) K4_38
@[simp] def W4_39 := @C.wpe _ _ K4_39.eq_1
def K4_40 : C := .seq (.pl <| .st (.ext 16 0) <|
    .st (.act none (.px (some 3) (.mv (.c (.bool false))))) .done) (.ret)
@[simp] def W4_40 := @C.wpe _ _ K4_40.eq_1
def K4_41 : C := .cond 16 (.v 20) K4_40 (.skip)
@[simp] def W4_41 := @C.wpe _ _ K4_41.eq_1
def K4_42 : Pl := .st (.act none (.px (some 20) (.un .not (.v 19)))) .done
@[simp] def W4_42 := @Pl.wpe _ _ K4_42.eq_1
def K4_43 : Pl := .st (.act none (.ex (some 19) (.call fn_laws_eqIntS [.v 16, .v 18]))) K4_42
@[simp] def W4_43 := @Pl.wpe _ _ K4_43.eq_1
def K4_44 : C := .seq (.seq (.pl <| .st (.ext 16 5) <|
    .st (.act none (.px (some 16) (.mv (.v 8)))) <|
    .st (.act none (.px (some 17) (.mv (.v 1)))) <|
    .st (.act none (.ex (some 18) (.call fn_laws_toIntS [.v 17]))) K4_43) K4_41) K4_39
@[simp] def W4_44 := @C.wpe _ _ K4_44.eq_1
def K4_45 : C := .seq (.pl <| .st (.ext 16 0) <|
    .st (.act none (.px (some 3) (.mv (.c (.bool false))))) .done) (.ret)
@[simp] def W4_45 := @C.wpe _ _ K4_45.eq_1
def K4_46 : C := .cond 16 (.v 20) K4_45 (.skip)
@[simp] def W4_46 := @C.wpe _ _ K4_46.eq_1
def K4_47 : Pl := .st (.act none (.px (some 20) (.un .not (.v 19)))) .done
@[simp] def W4_47 := @Pl.wpe _ _ K4_47.eq_1
def K4_48 : Pl := .st (.act none (.ex (some 19) (.call fn_laws_eqAutomaton [.v 16, .v 18]))) K4_47
@[simp] def W4_48 := @Pl.wpe _ _ K4_48.eq_1
def K4_49 : C := .seq (.seq (.pl <| .st (.ext 16 5) <|
    .st (.act none (.pget (some 16) none 7 0 (some 3))) <|
    .st (.act none (.pget (some 17) none 2 0 (some 3))) <|
    .st (.act none (.ex (some 18) (.call fn_laws_toAutomaton [.v 17]))) K4_48) K4_46) K4_44
@[simp] def W4_49 := @C.wpe _ _ K4_49.eq_1
def K4_50 : C := .seq (.pl <| .st (.ext 16 0) <|
    .st (.act none (.px (some 3) (.mv (.c (.bool false))))) .done) (.ret)
@[simp] def W4_50 := @C.wpe _ _ K4_50.eq_1
def K4_51 : C := .cond 16 (.v 24) K4_50 (.skip)
@[simp] def W4_51 := @C.wpe _ _ K4_51.eq_1
def K4_52 : Pl := .st (.act none (.px (some 19) (.un .not (.v 18)))) <|
    .st (.act none (.px (some 20) (.mv (.v 19)))) <|
    .st (.act (some (.v 20, false)) (.px (some 21) (.mv (.v 10)))) <|
    .st (.act (some (.v 20, false)) (.px (some 22) (.mv (.v 6)))) <|
    .st (.act (some (.v 20, false)) (.px (some 23) (.eqb true (.v 21) (.v 22)))) <|
    .st (.act none (.px (some 24) (.pick (.v 20) (.c (.bool true)) (.v 23)))) .done
@[simp] def W4_52 := @Pl.wpe _ _ K4_52.eq_1
def K4_53 : C := .seq (.seq (.pl <| .st (.ext 16 9) <|
    .st (.act none (.px (some 16) (.mv (.v 9)))) <|
    .st (.act none (.px (some 17) (.mv (.v 5)))) <|
    .st (.act none (.ex (some 18) (.call fn_laws_eqIntS [.v 16, .v 17]))) K4_52) K4_51) K4_49
@[simp] def W4_53 := @C.wpe _ _ K4_53.eq_1
def K4_54 : Pl := .st (.act none (.px (some 19) (.mv (.v 18)))) <|
    .st (.act none (.px (some 20) (.extract 0 (.v 19)))) <|
    .st (.act none (.px (some 21) (.extract 1 (.v 19)))) <|
    .st (.act none (.px (some 9) (.mv (.v 20)))) <|
    .st (.act none (.px (some 10) (.mv (.v 21)))) .done
@[simp] def W4_54 := @Pl.wpe _ _ K4_54.eq_1
def K4_55 : C := .seq (.pl <| .st (.ext 16 6) <|
    .st (.act none (.pget (some 16) none 7 0 (some 3))) <|
    .st (.act none (.px (some 17) (.mv (.v 8)))) <|
    .st (.act none (.ex (some 18) (.call fn_impl_PrefixStates [.v 16, .v 17]))) K4_54) K4_53
@[simp] def W4_55 := @C.wpe _ _ K4_55.eq_1
def K4_56 : Pl := .st (.act none (.px (some 8) (.mv (.v 17)))) .done
@[simp] def W4_56 := @Pl.wpe _ _ K4_56.eq_1
def K4_57 : C := .seq (.pl <| .st (.ext 16 2) <|
    .st (.act none (.px (some 16) (.mv (.v 1)))) <|
    .st (.act none (.ex (some 17) (.call fn_laws_toIntS [.v 16]))) K4_56) K4_55
@[simp] def W4_57 := @C.wpe _ _ K4_57.eq_1
def K4_58 : Pl := .st (.act none (.pnew 7 (.c (.agg #[.slice none 0 0, .slice none 0 0, .slice none 0 0])) [])) <|
    .st (.act none (.pset none 7 0 3 (.v 17))) .done
@[simp] def W4_58 := @Pl.wpe _ _ K4_58.eq_1
def K4_59 : C := .seq (.pl <| .st (.ext 16 2) <|
    .st (.act none (.pget (some 16) none 2 0 (some 3))) <|
    .st (.act none (.ex (some 17) (.call fn_laws_toAutomaton [.v 16]))) K4_58) K4_57
@[simp] def W4_59 := @C.wpe _ _ K4_59.eq_1
def K4_60 : Pl := .st (.act none (.px (some 21) (.mv (.v 20)))) <|
    .st (.act none (.px (some 22) (.extract 0 (.v 21)))) <|
    .st (.act none (.px (some 23) (.extract 1 (.v 21)))) <|
    .st (.act none (.px (some 5) (.mv (.v 22)))) <|
    .st (.act none (.px (some 6) (.mv (.v 23)))) .done
@[simp] def W4_60 := @Pl.wpe _ _ K4_60.eq_1
def K4_61 : Pl := .st (.act none (.ex (some 20) (.call fn_spec_PrefixStates [.v 17, .v 19]))) K4_60
@[simp] def W4_61 := @Pl.wpe _ _ K4_61.eq_1
def K4_62 : Pl := .st (.act none (.px (some 18) (.mv (.v 1)))) <|
    .st (.act none (.ex (some 19) (.call fn_laws_toIntS [.v 18]))) K4_61
@[simp] def W4_62 := @Pl.wpe _ _ K4_62.eq_1
def K4_63 : C := .seq (.pl <| .st (.ext 16 8) <|
    .st (.act none (.pget (some 16) none 2 0 (some 3))) <|
    .st (.act none (.ex (some 17) (.call fn_laws_toAutomaton [.v 16]))) K4_62) K4_59
@[simp] def W4_63 := @C.wpe _ _ K4_63.eq_1
def K4_64 : C := .seq (.pl <| .st (.ext 16 0) <|
    .st (.act none (.px (some 3) (.mv (.c (.bool true))))) .done) (.ret)
@[simp] def W4_64 := @C.wpe _ _ K4_64.eq_1
def K4_65 : C := .cond 16 (.v 17) K4_64 (.skip)
@[simp] def W4_65 := @C.wpe _ _ K4_65.eq_1
def K4_66 : C := .seq (.seq (.pl <| .st (.ext 16 2) <|
    .st (.act none (.px (some 16) (.mv (.v 4)))) <|
    .st (.act none (.px (some 17) (.bin .lss (.v 16) (.c (.int .i64 0))))) .done) K4_65) K4_63
@[simp] def W4_66 := @C.wpe _ _ K4_66.eq_1
def K4_67 : Pl := .st (.act none (.px (some 4) (.mv (.v 18)))) .done
@[simp] def W4_67 := @Pl.wpe _ _ K4_67.eq_1
def K4_68 : C := .seq (.pl <| .st (.ext 16 3) <|
    .st (.act none (.pget (some 16) none 2 0 (some 3))) <|
    .st (.act none (.px (some 17) (.mv (.v 4)))) <|
    .st (.act none (.ex (some 18) (.call fn_laws_szAutomaton [.v 16, .v 17]))) K4_67) K4_66
@[simp] def W4_68 := @C.wpe _ _ K4_68.eq_1
def K4_69 : C := .seq (.pl <| .st (.ext 16 0) <|
    .st (.act none (.px (some 4) (.mv (.c (.int .i64 1048576))))) .done) K4_68
@[simp] def W4_69 := @C.wpe _ _ K4_69.eq_1
def K4_70 : C := .seq (.pl <| .st (.ext 16 0) <|
    .st (.act none (.px (some 3) (.mv (.c (.bool true))))) .done) (.ret)
@[simp] def W4_70 := @C.wpe _ _ K4_70.eq_1
def K4_71 : C := .cond 16 (.v 18) K4_70 (.skip)
@[simp] def W4_71 := @C.wpe _ _ K4_71.eq_1
def K4_72 : C := .seq (.seq (.pl <| .st (.ext 16 3) <|
    .st (.act none (.px (some 16) (.mv (.v 1)))) <|
    .st (.act none (.px (some 17) (.lenV (.v 16)))) <|
    .st (.act none (.px (some 18) (.bin .gtr (.v 17) (.c (.int .i64 1048576))))) .done) K4_71) K4_69
@[simp] def W4_72 := @C.wpe _ _ K4_72.eq_1
def B_laws_FnExactPrefixStates : C := .seq (.pl <| .st (.ext 16 0) <|
    .st (.act none (.pnew 2 (.v 0) [])) <|
    .st (.act none (.px (some 3) (.mv (.c (.bool false))))) .done) K4_72
@[simp] def WB_laws_FnExactPrefixStates := @C.wpe _ _ B_laws_FnExactPrefixStates.eq_1
def R_laws_FnExactPrefixStates : FIR := ⟨B_laws_FnExactPrefixStates, 16, [(3, none)]⟩
theorem IR_laws_FnExactPrefixStates : cfun Try.prog H_laws_FnExactPrefixStates Try.f4 = some R_laws_FnExactPrefixStates := by kernel_rfl
theorem EN_laws_FnExactPrefixStates {args : List Value} {h : Heap} {k : Value → Heap → Prop} (hargs : args.length = 2) (hw : B_laws_FnExactPrefixStates.wp Try.prog (retQ [(3, none)] k) (env0 args 16) h) : CallE Try.prog fn_laws_FnExactPrefixStates args h k := enter Try.func4 rfl IR_laws_FnExactPrefixStates hargs hw

def H_laws_FnExactSimplifyAutomaton : Hint := ⟨[(0, false), (1, true), (2, false), (3, false), (4, true), (5, false), (6, true), (7, true), (8, false), (9, false), (10, false), (11, false), (12, true), (13, false)], []⟩
def K6_1 : C := .seq (.pl <| .st (.ext 14 0) <|
    .st (.act none (.px (some 2) (.mv (.c (.bool true))))) .done) (.ret)
@[simp] def W6_1 := @C.wpe _ _ K6_1.eq_1
def K6_2 : C := .seq (.pl <| .st (.ext 14 0) <|
    .st (.act none (.px (some 2) (.mv (.c (.bool false))))) .done) (.ret)
@[simp] def W6_2 := @C.wpe _ _ K6_2.eq_1
def K6_3 : C := .cond 14 (.v 16) K6_2 (.skip)
@[simp] def W6_3 := @C.wpe _ _ K6_3.eq_1
def K6_4 : C := .seq (.seq (.pl <| .st (.ext 14 3) <|
    .st (.act none (.px (some 14) (.mv (.v 11)))) <|
    .st (.act none (.px (some 15) (.mv (.v 10)))) <|
    .st (.act none (.px (some 16) (.bin .neq (.v 14) (.v 15)))) .done) K6_3) K6_1
@[simp] def W6_4 := @C.wpe _ _ K6_4.eq_1
def K6_5 : C := .seq (.pl <| .st (.ext 14 0) <|
    .st (.act none (.px (some 2) (.mv (.c (.bool false))))) .done) (.ret)
@[simp] def W6_5 := @C.wpe _ _ K6_5.eq_1
def K6_6 : C := .cond 14 (.v 15) K6_5 (.skip)
@[simp] def W6_6 := @C.wpe _ _ K6_6.eq_1
def K6_7 : C := .seq (.seq (.pl <| .st (.ext 14 2) <|
    .st (.act none (.px (some 14) (.mv (.v 11)))) <|
    .st (.act none (.px (some 15) (.bin .lss (.v 14) (.c (.int .i64 0))))) .done) K6_6) K6_4
@[simp] def W6_7 := @C.wpe _ _ K6_7.eq_1
def K6_8 : Pl := .st (.act none (.px (some 11) (.mv (.v 16)))) .done
@[simp] def W6_8 := @Pl.wpe _ _ K6_8.eq_1
def K6_9 : C := .seq (.pl <| .st (.ext 14 3) <|
    .st (.act none (.pget (some 14) none 7 0 (some 3))) <|
    .st (.act none (.px (some 15) (.mv (.v 11)))) <|
    .st (.act none (.ex (some 16) (.call fn_laws_heldAutomaton [.v 14, .v 15]))) K6_8) K6_7
@[simp] def W6_9 := @C.wpe _ _ K6_9.eq_1
def K6_10 : C := .seq (.pl <| .st (.ext 14 0) <|
    .st (.act none (.px (some 11) (.mv (.c (.int .i64 1))))) .done) K6_9
@[simp] def W6_10 := @C.wpe _ _ K6_10.eq_1
def K6_11 : C := .seq (.pl <| .st (.ext 14 0) <|
    .st (.act none (.px (some 2) (.mv (.c (.bool false))))) .done) (.ret)
@[simp] def W6_11 := @C.wpe _ _ K6_11.eq_1
def K6_12 : C := .cond 14 (.v 22) K6_11 (.skip)
@[simp] def W6_12 := @C.wpe _ _ K6_12.eq_1
def K6_13 : Pl := .st (.act none (.px (some 17) (.un .not (.v 16)))) <|
    .st (.act none (.px (some 18) (.mv (.v 17)))) <|
    .st (.act (some (.v 18, false)) (.px (some 19) (.mv (.v 13)))) <|
    .st (.act (some (.v 18, false)) (.px (some 20) (.mv (.v 5)))) <|
    .st (.act (some (.v 18, false)) (.px (some 21) (.eqb true (.v 19) (.v 20)))) <|
    .st (.act none (.px (some 22) (.pick (.v 18) (.c (.bool true)) (.v 21)))) .done
@[simp] def W6_13 := @Pl.wpe _ _ K6_13.eq_1
def K6_14 : C := .seq (.seq (.pl <| .st (.ext 14 9) <|
    .st (.act none (.pget (some 14) none 12 0 (some 3))) <|
    .st (.act none (.pget (some 15) none 4 0 (some 3))) <|
    .st (.act none (.ex (some 16) (.call fn_laws_eqAutomaton [.v 14, .v 15]))) K6_13) K6_12) K6_10
@[simp] def W6_14 := @C.wpe _ _ K6_14.eq_1
def K6_15 : Pl := .st (.act none (.px (some 17) (.mv (.v 16)))) <|
    .st (.act none (.px (some 18) (.extract 0 (.v 17)))) <|
    .st (.act none (.px (some 19) (.extract 1 (.v 17)))) <|
    .st (.act none (.pnew 12 (.c (.agg #[.slice none 0 0, .slice none 0 0, .slice none 0 0])) [])) <|
    .st (.act none (.pset none 12 0 3 (.v 18))) <|
    .st (.act none (.px (some 13) (.mv (.v 19)))) .done
@[simp] def W6_15 := @Pl.wpe _ _ K6_15.eq_1
def K6_16 : Pl := .st (.act none (.ex (some 16) (.call fn_impl_SimplifyAutomaton [.v 15]))) K6_15
@[simp] def W6_16 := @Pl.wpe _ _ K6_16.eq_1
def K6_17 : C := .seq (.pl <| .st (.ext 14 6) <|
    .st (.act none (.pget (some 14) none 1 0 (some 3))) <|
    .st (.act none (.ex (some 15) (.call fn_laws_toAutomaton [.v 14]))) K6_16) K6_14
@[simp] def W6_17 := @C.wpe _ _ K6_17.eq_1
def K6_18 : C := .seq (.pl <| .st (.ext 14 0) <|
    .st (.act none (.px (some 2) (.mv (.c (.bool false))))) .done) (.ret)
@[simp] def W6_18 := @C.wpe _ _ K6_18.eq_1
def K6_19 : C := .cond 14 (.v 16) K6_18 (.skip)
@[simp] def W6_19 := @C.wpe _ _ K6_19.eq_1
def K6_20 : C := .seq (.seq (.pl <| .st (.ext 14 3) <|
    .st (.act none (.px (some 14) (.mv (.v 11)))) <|
    .st (.act none (.px (some 15) (.mv (.v 10)))) <|
    .st (.act none (.px (some 16) (.bin .neq (.v 14) (.v 15)))) .done) K6_19) K6_17
@[simp] def W6_20 := @C.wpe _ _ K6_20.eq_1
def K6_21 : C := .seq (.pl <| .st (.ext 14 0) <|
    .st (.act none (.px (some 2) (.mv (.c (.bool false))))) .done) (.ret)
@[simp] def W6_21 := @C.wpe _ _ K6_21.eq_1
def K6_22 : C := .cond 14 (.v 15) K6_21 (.skip)
@[simp] def W6_22 := @C.wpe _ _ K6_22.eq_1
def K6_23 : C := .seq (.seq (.pl <| .st (.ext 14 2) <|
    .st (.act none (.px (some 14) (.mv (.v 11)))) <|
    .st (.act none (.px (some 15) (.bin .lss (.v 14) (.c (.int .i64 0))))) .done) K6_22) K6_20
@[simp] def W6_23 := @C.wpe _ _ K6_23.eq_1
def K6_24 : Pl := .st (.act none (.px (some 11) (.mv (.v 16)))) .done
@[simp] def W6_24 := @Pl.wpe _ _ K6_24.eq_1
def K6_25 : C := .seq (.pl <| .st (.ext 14 3) <|
    .st (.act none (.pget (some 14) none 7 0 (some 3))) <|
    .st (.act none (.px (some 15) (.mv (.v 11)))) <|
    .st (.act none (.ex (some 16) (.call fn_laws_heldAutomaton [.v 14, .v 15]))) K6_24) K6_23
@[simp] def W6_25 := @C.wpe _ _ K6_25.eq_1
def K6_26 : C := .seq (.pl <| .st (.ext 14 0) <|
    .st (.act none (.px (some 11) (.mv (.c (.int .i64 1))))) .done) K6_25
@[simp] def W6_26 := @C.wpe _ _ K6_26.eq_1
def K6_27 : Pl := .st (.act none (.px (some 10) (.mv (.v 16)))) .done
@[simp] def W6_27 := @Pl.wpe _ _ K6_27.eq_1
def K6_28 : C := .seq (.pl <| .st (.ext 14 3) <|
    .st (.act none (.pget (some 14) none 7 0 (some 3))) <|
    .st (.act none (.px (some 15) (.mv (.v 10)))) <|
    .st (.act none (.ex (some 16) (.call fn_laws_markAutomaton [.v 14, .v 15]))) K6_27) K6_26
@[simp] def W6_28 := @C.wpe _ _ K6_28.eq_1
def K6_29 : C := .seq (.pl <| .st (.ext 14 0) <|
    .st (.act none (.px (some 10) (.mv (.c (.int .i64 1))))) .done) K6_28
@[simp] def W6_29 := @C.wpe _ _ K6_29.eq_1
def K6_30 : C := .seq (.pl <| .st (.ext 14 0) <|
    .st (.act none (.px (some 2) (.mv (.c (.bool false))))) .done) (.ret)
@[simp] def W6_30 := @C.wpe _ _ K6_30.eq_1
def K6_31 : C := .cond 14 (.v 26) K6_30 (.skip)
@[simp] def W6_31 := @C.wpe _ _ K6_31.eq_1
def K6_32 : Pl := .st (.act (some (.v 16, false)) (.px (some 20) (.un .not (.v 19)))) <|
    .st (.act none (.px (some 21) (.pick (.v 16) (.c (.bool true)) (.v 20)))) <|
    .st (.act none (.px (some 22) (.mv (.v 21)))) <|
    .st (.act (some (.v 22, false)) (.px (some 23) (.mv (.v 8)))) <|
    .st (.act (some (.v 22, false)) (.px (some 24) (.mv (.v 5)))) <|
    .st (.act (some (.v 22, false)) (.px (some 25) (.eqb true (.v 23) (.v 24)))) <|
    .st (.act none (.px (some 26) (.pick (.v 22) (.c (.bool true)) (.v 25)))) .done
@[simp] def W6_32 := @Pl.wpe _ _ K6_32.eq_1
def K6_33 : C := .seq (.seq (.pl <| .st (.ext 14 13) <|
    .st (.act none (.px (some 14) (.mv (.v 9)))) <|
    .st (.act none (.px (some 15) (.bin .lss (.v 14) (.c (.int .i64 0))))) <|
    .st (.act none (.px (some 16) (.mv (.v 15)))) <|
    .st (.act (some (.v 16, false)) (.pget (some 17) none 7 0 (some 3))) <|
    .st (.act (some (.v 16, false)) (.pget (some 18) none 4 0 (some 3))) <|
    .st (.act (some (.v 16, false)) (.ex (some 19) (.call fn_laws_eqAutomaton [.v 17, .v 18]))) K6_32) K6_31) K6_29
@[simp] def W6_33 := @C.wpe _ _ K6_33.eq_1
def K6_34 : Pl := .st (.act none (.px (some 9) (.mv (.v 16)))) .done
@[simp] def W6_34 := @Pl.wpe _ _ K6_34.eq_1
def K6_35 : C := .seq (.pl <| .st (.ext 14 3) <|
    .st (.act none (.pget (some 14) none 6 0 (some 3))) <|
    .st (.act none (.px (some 15) (.mv (.v 9)))) <|
    .st (.act none (.ex (some 16) (.call fn_laws_markAutomaton [.v 14, .v 15]))) K6_34) K6_33
@[simp] def W6_35 := @C.wpe _ _ K6_35.eq_1
def K6_36 : C := .seq (.pl <| .st (.ext 14 0) <|
    .st (.act none (.px (some 9) (.mv (.c (.int .i64 1))))) .done) K6_35
@[simp] def W6_36 := @C.wpe _ _ K6_36.eq_1
def K6_37 : C := .seq (.pl <| .st (.ext 14 0) <|
    .st (.act none (.px (some 2) (.mv (.c (.bool false))))) .done) (.ret)
@[simp] def W6_37 := @C.wpe _ _ K6_37.eq_1
def K6_38 : C := .cond 14 (.v 18) K6_37 (.skip)
@[simp] def W6_38 := @C.wpe _ _ K6_38.eq_1
def K6_39 : Pl := .st (.act none (.px (some 18) (.un .not (.v 17)))) .done
@[simp] def W6_39 := @Pl.wpe _ _ K6_39.eq_1
def K6_40 : Pl := .st (.act none (.ex (some 17) (.call fn_laws_eqAutomaton [.v 14, .v 16]))) K6_39
@[simp] def W6_40 := @Pl.wpe _ _ K6_40.eq_1
def K6_41 : C := .seq (.seq (.pl <| .st (.ext 14 5) <|
    .st (.act none (.pget (some 14) none 6 0 (some 3))) <|
    .st (.act none (.pget (some 15) none 1 0 (some 3))) <|
    .st (.act none (.ex (some 16) (.call fn_laws_toAutomaton [.v 15]))) K6_40) K6_38) K6_36
@[simp] def W6_41 := @C.wpe _ _ K6_41.eq_1
def K6_42 : C := .seq (.pl <| .st (.ext 14 0) <|
    .st (.act none (.px (some 2) (.mv (.c (.bool false))))) .done) (.ret)
@[simp] def W6_42 := @C.wpe _ _ K6_42.eq_1
def K6_43 : C := .cond 14 (.v 22) K6_42 (.skip)
@[simp] def W6_43 := @C.wpe _ _ K6_43.eq_1
def K6_44 : Pl := .st (.act none (.px (some 17) (.un .not (.v 16)))) <|
    .st (.act none (.px (some 18) (.mv (.v 17)))) <|
    .st (.act (some (.v 18, false)) (.px (some 19) (.mv (.v 8)))) <|
    .st (.act (some (.v 18, false)) (.px (some 20) (.mv (.v 5)))) <|
    .st (.act (some (.v 18, false)) (.px (some 21) (.eqb true (.v 19) (.v 20)))) <|
    .st (.act none (.px (some 22) (.pick (.v 18) (.c (.bool true)) (.v 21)))) .done
@[simp] def W6_44 := @Pl.wpe _ _ K6_44.eq_1
def K6_45 : C := .seq (.seq (.pl <| .st (.ext 14 9) <|
    .st (.act none (.pget (some 14) none 7 0 (some 3))) <|
    .st (.act none (.pget (some 15) none 4 0 (some 3))) <|
    .st (.act none (.ex (some 16) (.call fn_laws_eqAutomaton [.v 14, .v 15]))) K6_44) K6_43) K6_41
@[simp] def W6_45 := @C.wpe _ _ K6_45.eq_1
def K6_46 : Pl := .st (.act none (.px (some 16) (.mv (.v 15)))) <|
    .st (.act none (.px (some 17) (.extract 0 (.v 16)))) <|
    .st (.act none (.px (some 18) (.extract 1 (.v 16)))) <|
    .st (.act none (.pnew 7 (.c (.agg #[.slice none 0 0, .slice none 0 0, .slice none 0 0])) [])) <|
    .st (.act none (.pset none 7 0 3 (.v 17))) <|
    .st (.act none (.px (some 8) (.mv (.v 18)))) .done
@[simp] def W6_46 := @Pl.wpe _ _ K6_46.eq_1
def K6_47 : C := .seq (.pl <| .st (.ext 14 5) <|
    .st (.act none (.pget (some 14) none 6 0 (some 3))) <|
    .st (.act none (.ex (some 15) (.call fn_impl_SimplifyAutomaton [.v 14]))) K6_46) K6_45
@[simp] def W6_47 := @C.wpe _ _ K6_47.eq_1
def K6_48 : Pl := .st (.act none (.pnew 6 (.c (.agg #[.slice none 0 0, .slice none 0 0, .slice none 0 0])) [])) <|
    .st (.act none (.pset none 6 0 3 (.v 15))) .done
@[simp] def W6_48 := @Pl.wpe _ _ K6_48.eq_1
def K6_49 : C := .seq (.pl <| .st (.ext 14 2) <|
    .st (.act none (.pget (some 14) none 1 0 (some 3))) <|
    .st (.act none (.ex (some 15) (.call fn_laws_toAutomaton [.v 14]))) K6_48) K6_47
@[simp] def W6_49 := @C.wpe _ _ K6_49.eq_1
def K6_50 : Pl := .st (.act none (.px (some 17) (.mv (.v 16)))) <|
    .st (.act none (.px (some 18) (.extract 0 (.v 17)))) <|
    .st (.act none (.px (some 19) (.extract 1 (.v 17)))) <|
    .st (.act none (.pnew 4 (.c (.agg #[.slice none 0 0, .slice none 0 0, .slice none 0 0])) [])) <|
    .st (.act none (.pset none 4 0 3 (.v 18))) <|
    .st (.act none (.px (some 5) (.mv (.v 19)))) .done
@[simp] def W6_50 := @Pl.wpe _ _ K6_50.eq_1
def K6_51 : Pl := .st (.act none (.ex (some 16) (.call fn_spec_SimplifyAutomaton [.v 15]))) K6_50
@[simp] def W6_51 := @Pl.wpe _ _ K6_51.eq_1
def K6_52 : C := .seq (.pl <| .st (.ext 14 6) <|
    .st (.act none (.pget (some 14) none 1 0 (some 3))) <|
    .st (.act none (.ex (some 15) (.call fn_laws_toAutomaton [.v 14]))) K6_51) K6_49
@[simp] def W6_52 := @C.wpe _ _ K6_52.eq_1
def K6_53 : C := .seq (.pl <| .st (.ext 14 0) <|
    .st (.act none (.px (some 2) (.mv (.c (.bool true))))) .done) (.ret)
@[simp] def W6_53 := @C.wpe _ _ K6_53.eq_1
def K6_54 : C := .cond 14 (.v 15) K6_53 (.skip)
@[simp] def W6_54 := @C.wpe _ _ K6_54.eq_1
def K6_55 : C := .seq (.seq (.pl <| .st (.ext 14 2) <|
    .st (.act none (.px (some 14) (.mv (.v 3)))) <|
    .st (.act none (.px (some 15) (.bin .lss (.v 14) (.c (.int .i64 0))))) .done) K6_54) K6_52
@[simp] def W6_55 := @C.wpe _ _ K6_55.eq_1
def K6_56 : Pl := .st (.act none (.px (some 3) (.mv (.v 16)))) .done
@[simp] def W6_56 := @Pl.wpe _ _ K6_56.eq_1
def K6_57 : C := .seq (.pl <| .st (.ext 14 3) <|
    .st (.act none (.pget (some 14) none 1 0 (some 3))) <|
    .st (.act none (.px (some 15) (.mv (.v 3)))) <|
    .st (.act none (.ex (some 16) (.call fn_laws_szAutomaton [.v 14, .v 15]))) K6_56) K6_55
@[simp] def W6_57 := @C.wpe _ _ K6_57.eq_1
def K6_58 : C := .seq (.pl <| .st (.ext 14 0) <|
    .st (.act none (.px (some 3) (.mv (.c (.int .i64 1048576))))) .done) K6_57
@[simp] def W6_58 := @C.wpe _ _ K6_58.eq_1
def B_laws_FnExactSimplifyAutomaton : C := .seq (.pl <| .st (.ext 14 0) <|
    .st (.act none (.pnew 1 (.v 0) [])) <|
    .st (.act none (.px (some 2) (.mv (.c (.bool false))))) .done) K6_58
@[simp] def WB_laws_FnExactSimplifyAutomaton := @C.wpe _ _ B_laws_FnExactSimplifyAutomaton.eq_1
def R_laws_FnExactSimplifyAutomaton : FIR := ⟨B_laws_FnExactSimplifyAutomaton, 14, [(2, none)]⟩
theorem IR_laws_FnExactSimplifyAutomaton : cfun Try.prog H_laws_FnExactSimplifyAutomaton Try.f6 = some R_laws_FnExactSimplifyAutomaton := by kernel_rfl
theorem EN_laws_FnExactSimplifyAutomaton {args : List Value} {h : Heap} {k : Value → Heap → Prop} (hargs : args.length = 1) (hw : B_laws_FnExactSimplifyAutomaton.wp Try.prog (retQ [(2, none)] k) (env0 args 14) h) : CallE Try.prog fn_laws_FnExactSimplifyAutomaton args h k := enter Try.func6 rfl IR_laws_FnExactSimplifyAutomaton hargs hw


end Go.Proofs.Ytknkjplnngeebaa
