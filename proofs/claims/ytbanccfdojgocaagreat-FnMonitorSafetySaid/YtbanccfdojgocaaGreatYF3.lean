/-
  Texts of this proof, one behind the other.
-/
import Derived.Test.YtbanccfdojgocaaGreatRows
import Derived.WalkKit
import Derived.ProofKit
import Derived.OpenShut
import Derived.Carry
import Derived.Deep.Slices
import Derived.SizedLaws
import Derived.Test.YtbanccfdojgocaaGreatYF2
set_option linter.all false
set_option linter.unusedVariables false
set_option linter.unusedSimpArgs false
set_option linter.defProp false
set_option maxRecDepth 1000000
namespace Go.Proofs.YtbanccfdojgocaaGreat
open Go
abbrev fn_main_main:Nat:=0
abbrev fn_gosem_cut:Nat:=1
abbrev fn_gosem_cut_init:Nat:=2
abbrev fn_laws_FnTranslateFormula:Nat:=3
abbrev fn_laws_FnTranslateEquivalent:Nat:=4
abbrev fn_laws_FnTranslateNext:Nat:=5
abbrev fn_laws_FnUnionDistributes:Nat:=6
abbrev fn_laws_FnIntersectConjunction:Nat:=7
abbrev fn_laws_FnTranslateNegation:Nat:=8
abbrev fn_laws_FnExactShortestBad:Nat:=9
abbrev fn_laws_FnExactMonitorFormula:Nat:=10
abbrev fn_laws_FnExactMonitorRun:Nat:=11
abbrev fn_laws_FnMonitorNegation:Nat:=12
abbrev fn_laws_FnMonitorSafety:Nat:=13
abbrev fn_spec_DrawTranslateFormula:Nat:=14
abbrev fn_spec_DrawAccepts:Nat:=15
abbrev fn_impl_TranslateFormula:Nat:=16
abbrev fn_spec_TranslateFormula:Nat:=17
abbrev fn_impl_AutomatonSame:Nat:=18
abbrev fn_impl_Accepts:Nat:=19
abbrev fn_impl_Satisfies:Nat:=20
abbrev fn_impl_AutomatonValid:Nat:=21
abbrev fn_impl_NormalForm:Nat:=22
abbrev fn_impl_SuffixAt:Nat:=23
abbrev fn_impl_UniteAutomata:Nat:=24
abbrev fn_impl_IntersectAutomata:Nat:=25
abbrev fn_impl_NegateFormula:Nat:=26
abbrev fn_impl_FindWord:Nat:=27
abbrev fn_laws_szFormula:Nat:=28
abbrev fn_spec_ShortestBad:Nat:=29
abbrev fn_laws_toFormula:Nat:=30
abbrev fn_impl_ShortestBad:Nat:=31
abbrev fn_laws_eqIntS:Nat:=32
abbrev fn_laws_eqFormula:Nat:=33
abbrev fn_laws_markFormula:Nat:=34
abbrev fn_laws_markIntS:Nat:=35
abbrev fn_laws_heldIntS:Nat:=36
abbrev fn_spec_MonitorFormula:Nat:=37
abbrev fn_laws_toIntS:Nat:=38
abbrev fn_impl_MonitorFormula:Nat:=39
abbrev fn_spec_MonitorRun:Nat:=40
abbrev fn_impl_MonitorRun:Nat:=41
abbrev fn_spec_DrawMonitorFormula:Nat:=42
abbrev fn_spec_DrawMonitorRun:Nat:=43
abbrev fn_laws_wpInts:Nat:=44
abbrev fn_spec_DrawFormulaValid:Nat:=45
abbrev fn_spec_l16Open:Nat:=46
abbrev fn_spec_l7Mutate:Nat:=47
abbrev fn_spec_l7Automaton:Nat:=48
abbrev fn_spec_l6Mutate:Nat:=49
abbrev fn_spec_l6Lasso:Nat:=50
abbrev fn_impl_BasicFormulas:Nat:=51
abbrev fn_impl_Formula_normalForm:Nat:=52
abbrev fn_impl_translator_holds:Nat:=53
abbrev fn_impl_TranslateFormula_1:Nat:=54
abbrev fn_impl_translator_fulfils:Nat:=55
abbrev fn_impl_explore_impl_phased:Nat:=56
abbrev fn_impl_translator_moves:Nat:=57
abbrev fn_spec_BasicFormulas:Nat:=58
abbrev fn_spec_NormalForm:Nat:=59
abbrev fn_spec_l7Untils:Nat:=60
abbrev fn_spec_l7Value:Nat:=61
abbrev fn_spec_l7Phase:Nat:=62
abbrev fn_spec_l7Letter:Nat:=63
abbrev fn_spec_l7Follows:Nat:=64
abbrev fn_spec_l7Pair:Nat:=65
abbrev fn_slices_Equal_S_int_int:Nat:=66
abbrev fn_slices_Equal_S_bool_bool:Nat:=67
abbrev fn_slices_Equal_S_impl_Transition_impl_Transition:Nat:=68
abbrev fn_impl_LassoValid:Nat:=69
abbrev fn_impl_Automaton_accepts:Nat:=70
abbrev fn_impl_FormulaValid:Nat:=71
abbrev fn_impl_Lasso_truths:Nat:=72
abbrev fn_impl_in:Nat:=73
abbrev fn_slices_ContainsFunc_S_impl_Transition_impl_Transition:Nat:=74
abbrev fn_impl_AutomatonValid_1:Nat:=75
abbrev fn_impl_clone_int:Nat:=76
abbrev fn_slices_Clip_S_int_int:Nat:=77
abbrev fn_slices_Concat_S_int_int:Nat:=78
abbrev fn_impl_Automaton_copyOf:Nat:=79
abbrev fn_impl_IntersectAutomata_1:Nat:=80
abbrev fn_impl_explore_impl_triple:Nat:=81
abbrev fn_impl_IntersectAutomata_2:Nat:=82
abbrev fn_impl_Formula_negation:Nat:=83
abbrev fn_impl_lasso:Nat:=84
abbrev fn_impl_Automaton_next:Nat:=85
abbrev fn_impl_FindWord_1:Nat:=86
abbrev fn_impl_Automaton_values:Nat:=87
abbrev fn_laws_szFormulaS:Nat:=88
abbrev fn_spec_LiveStates:Nat:=89
abbrev fn_spec_l12Only:Nat:=90
abbrev fn_spec_l12Step:Nat:=91
abbrev fn_laws_toFormulaS:Nat:=92
abbrev fn_impl_Automaton_live:Nat:=93
abbrev fn_impl_Automaton_begin:Nat:=94
abbrev fn_slices_Contains_S_bool_bool:Nat:=95
abbrev fn_impl_Automaton_after:Nat:=96
abbrev fn_slices_ContainsFunc_S_S_bool_S_bool:Nat:=97
abbrev fn_impl_ShortestBad_1:Nat:=98
abbrev fn_laws_eqFormulaS:Nat:=99
abbrev fn_laws_markFormulaS:Nat:=100
abbrev fn_spec_FormulaValid:Nat:=101
abbrev fn_spec_l12Word:Nat:=102
abbrev fn_spec_l12Both:Nat:=103
abbrev fn_spec_l12Verdict:Nat:=104
abbrev fn_impl_monitorRun:Nat:=105
abbrev fn_spec_l5Mutate:Nat:=106
abbrev fn_spec_l5Formula:Nat:=107
abbrev fn_spec_l12Letters:Nat:=108
abbrev fn_spec_l16Rd_pick:Nat:=109
abbrev fn_spec_l16Rd_num:Nat:=110
abbrev fn_spec_l6Word:Nat:=111
abbrev fn_impl_basics:Nat:=112
abbrev fn_impl_Formula_normal:Nat:=113
abbrev fn_impl_formulaAt:Nat:=114
abbrev fn_impl_explore_impl_phased_1:Nat:=115
abbrev fn_impl_translator_follows:Nat:=116
abbrev fn_spec_l5Subs:Nat:=117
abbrev fn_spec_l7Basic:Nat:=118
abbrev fn_spec_l5Push:Nat:=119
abbrev fn_spec_l6Has:Nat:=120
abbrev fn_spec_l5Find:Nat:=121
abbrev fn_spec_l7Fulfils:Nat:=122
abbrev fn_spec_l2Ints:Nat:=123
abbrev fn_impl_letters:Nat:=124
abbrev fn_impl_Lasso_all:Nat:=125
abbrev fn_impl_Transition_takes:Nat:=126
abbrev fn_impl_Lasso_next:Nat:=127
abbrev fn_impl_cyclic:Nat:=128
abbrev fn_impl_reachable:Nat:=129
abbrev fn_impl_FormulaNodes:Nat:=130
abbrev fn_impl_Lasso_truths_1:Nat:=131
abbrev fn_impl_Lasso_truths_2:Nat:=132
abbrev fn_impl_Lasso_truths_3:Nat:=133
abbrev fn_impl_Lasso_truths_4:Nat:=134
abbrev fn_impl_Lasso_truths_5:Nat:=135
abbrev fn_slices_IndexFunc_S_impl_Transition_impl_Transition:Nat:=136
abbrev fn_slices_Clone_S_int_int:Nat:=137
abbrev fn_slices_Grow_S_int_int:Nat:=138
abbrev fn_impl_clone_bool:Nat:=139
abbrev fn_impl_clone_impl_Transition:Nat:=140
abbrev fn_impl_explore_impl_triple_1:Nat:=141
abbrev fn_impl_Formula_copyOf:Nat:=142
abbrev fn_impl_formula:Nat:=143
abbrev fn_impl_order:Nat:=144
abbrev fn_impl_shortest:Nat:=145
abbrev fn_impl_lasso_1:Nat:=146
abbrev fn_impl_around:Nat:=147
abbrev fn_impl_Automaton_values_1:Nat:=148
abbrev fn_spec_AutomatonValid:Nat:=149
abbrev fn_spec_l7Next:Nat:=150
abbrev fn_spec_l7Reach:Nat:=151
abbrev fn_spec_l7Loop:Nat:=152
abbrev fn_spec_l4In:Nat:=153
abbrev fn_spec_l7On:Nat:=154
abbrev fn_spec_l10Sorted:Nat:=155
abbrev fn_slices_Index_S_bool_bool:Nat:=156
abbrev fn_slices_IndexFunc_S_S_bool_S_bool:Nat:=157
abbrev fn_spec_l5Shape:Nat:=158
abbrev fn_spec_l5Count:Nat:=159
abbrev fn_spec_l6Letters:Nat:=160
abbrev fn_spec_l8Negation:Nat:=161
abbrev fn_spec_l12States:Nat:=162
abbrev fn_impl_monitors:Nat:=163
abbrev fn_spec_l5Copy:Nat:=164
abbrev fn_spec_l5True:Nat:=165
abbrev fn_spec_l5Random:Nat:=166
abbrev fn_impl_Formula_subformulas:Nat:=167
abbrev fn_slices_Clip_S_impl_Formula_impl_Formula:Nat:=168
abbrev fn_impl_Formula_normal_1:Nat:=169
abbrev fn_impl_Formula_normal_2:Nat:=170
abbrev fn_slices_IndexFunc_S_impl_Formula_impl_Formula:Nat:=171
abbrev fn_impl_formulaAt_1:Nat:=172
abbrev fn_impl_FormulaSame:Nat:=173
abbrev fn_spec_l5Not:Nat:=174
abbrev fn_spec_l5Dual:Nat:=175
abbrev fn_spec_FormulaSame:Nat:=176
abbrev fn_slices_ContainsFunc_S_int_int:Nat:=177
abbrev fn_impl_letters_1:Nat:=178
abbrev fn_impl_components:Nat:=179
abbrev fn_slices_Contains_S_int_int:Nat:=180
abbrev fn_impl_Formula_walk:Nat:=181
abbrev fn_slices_Clip_S_bool_bool:Nat:=182
abbrev fn_slices_Clone_S_bool_bool:Nat:=183
abbrev fn_slices_Clip_S_impl_Transition_impl_Transition:Nat:=184
abbrev fn_slices_Clone_S_impl_Transition_impl_Transition:Nat:=185
abbrev fn_impl_clone_impl_Formula:Nat:=186
abbrev fn_impl_order_1:Nat:=187
abbrev fn_slices_Reverse_S_int_int:Nat:=188
abbrev fn_impl_around_1:Nat:=189
abbrev fn_spec_l7Edge:Nat:=190
abbrev fn_spec_l5Arity:Nat:=191
abbrev fn_spec_NegateFormula:Nat:=192
abbrev fn_impl_wordOk:Nat:=193
abbrev fn_impl_negated:Nat:=194
abbrev fn_impl_Formula_subformulas_1:Nat:=195
abbrev fn_slices_EqualFunc_S_impl_Formula_S_impl_Formula_impl_Formula_impl_Formula:Nat:=196
abbrev fn_slices_IndexFunc_S_int_int:Nat:=197
abbrev fn_impl_components_1:Nat:=198
abbrev fn_slices_Index_S_int_int:Nat:=199
abbrev fn_impl_operands:Nat:=200
abbrev fn_slices_ContainsFunc_S_impl_Formula_impl_Formula:Nat:=201
abbrev fn_impl_Formula_walk_1:Nat:=202
abbrev fn_slices_Clone_S_impl_Formula_impl_Formula:Nat:=203
abbrev fn_runtime_boundsError_Error:Nat:=204
abbrev fn_runtime_boundsError_RuntimeError:Nat:=205
abbrev fn_runtime_errorString_Error:Nat:=206
abbrev fn_runtime_errorString_RuntimeError:Nat:=207
abbrev fn_runtime_plainError_Error:Nat:=208
abbrev fn_runtime_plainError_RuntimeError:Nat:=209
abbrev fn_runtime_errorAddressString_Error:Nat:=210
abbrev fn_runtime_errorAddressString_RuntimeError:Nat:=211
abbrev fn_runtime_TypeAssertionError_Error:Nat:=212
abbrev fn_runtime_TypeAssertionError_RuntimeError:Nat:=213
abbrev fn_runtime_PanicNilError_Error:Nat:=214
abbrev fn_runtime_PanicNilError_RuntimeError:Nat:=215
abbrev fn_internal_abi_Type_Align:Nat:=216
abbrev fn_internal_runtime_maps_unhashableTypeError_Error:Nat:=217
abbrev fn_internal_runtime_maps_unhashableTypeError_RuntimeError:Nat:=218
abbrev fn_impl_Formula_text:Nat:=219
abbrev fn_impl_Automaton_accepting:Nat:=220
abbrev fn_spec_l16Rd_word:Nat:=221
abbrev fn_internal_abi_Kind_String:Nat:=222
end Go.Proofs.YtbanccfdojgocaaGreat

namespace Go.Proofs.YtbanccfdojgocaaGreat
open Go
def H_spec_l16Open:Hint:=⟨[(0,false),(2,false)],[]⟩
def K46_1:Pl:=.m 1 4 .done
@[simp] def W46_1 := Pl.w K46_1.eq_1
def K46_2:C:=.seq (.pl <| .e 2 3 <|
 .m 2 0 <|
 .x 3 (.build [.slice none 0 0,.int .i64 0] [(0,1,.v 2)]) <|
 .c 4 (.alloc (.v 3)) K46_1) (.ret)
@[simp] def W46_2 := C.w K46_2.eq_1
def K46_3:C:=.pl <| .e 2 2 <|
 .m 2 0 <|
 .x 3 (.sliceV 1 (.v 2) none (some (.c (.int .i64 2000))) none) <|
 .m 0 3 .done
@[simp] def W46_3 := C.w K46_3.eq_1
def K46_4:C:=.cond 2 (.v 4) K46_3 (.skip)
@[simp] def W46_4 := C.w K46_4.eq_1
def K46_5:C:=.seq (.seq (.pl <| .e 2 3 <|
 .m 2 0 <|
 .x 3 (.lenV (.v 2)) <|
 .x 4 (.bin .gtr (.v 3) (.c (.int .i64 2000))) .done) K46_4) K46_2
@[simp] def W46_5 := C.w K46_5.eq_1
def B_spec_l16Open:C:=.seq (.pl <| .e 2 0 <|
 .x 1 (.mv (.c (.pointer none))) .done) K46_5
@[simp] def WB_spec_l16Open := C.w B_spec_l16Open.eq_1
def R_spec_l16Open:FIR:=⟨B_spec_l16Open,2,[(1,none)]⟩
theorem IR_spec_l16Open:cfun Tryz.prog H_spec_l16Open Tryz.f46=some R_spec_l16Open:=by kernel_rfl
theorem EN_spec_l16Open:ENT Tryz.prog B_spec_l16Open [(1,none)] 1 2 fn_spec_l16Open:=fun hargs hw=>enter Tryz.func46 rfl IR_spec_l16Open hargs hw
def H_spec_l16Rd_num:Hint:=⟨[(0,false),(1,false),(4,false)],[]⟩
def K110_1:Pl:=.x 8 (.ia 1 (.v 3) (.v 7)) <|
 .l 9 8 <|
 .m 2 9 .done
@[simp] def W110_1 := Pl.w K110_1.eq_1
def K110_2:C:=.seq (.pl <| .e 3 7 <|
 .m 3 1 <|
 .m 4 0 <|
 .m 5 1 <|
 .x 6 (.lenV (.v 5)) <|
 .c 7 (.call fn_spec_l16Rd_pick [.v 4,.v 6]) K110_1) (.ret)
@[simp] def W110_2 := C.w K110_2.eq_1
def B_spec_l16Rd_num:C:=.seq (.pl <| .e 3 0 <|
 .x 2 (.mv (.c (.int .i64 0))) .done) K110_2
@[simp] def WB_spec_l16Rd_num := C.w B_spec_l16Rd_num.eq_1
def R_spec_l16Rd_num:FIR:=⟨B_spec_l16Rd_num,3,[(2,none)]⟩
theorem IR_spec_l16Rd_num:cfun Tryz.prog H_spec_l16Rd_num Tryz.f110=some R_spec_l16Rd_num:=by kernel_rfl
theorem EN_spec_l16Rd_num:ENT Tryz.prog B_spec_l16Rd_num [(2,none)] 2 3 fn_spec_l16Rd_num:=fun hargs hw=>enter Tryz.func110 rfl IR_spec_l16Rd_num hargs hw
def H_spec_l16Rd_pick:Hint:=⟨[(0,false),(1,false),(4,false),(5,false),(6,false)],[]⟩
def K109_1:C:=.seq (.pl <| .e 5 3 <|
 .m 5 4 <|
 .m 6 1 <|
 .x 7 (.bin .rem (.v 5) (.v 6)) <|
 .m 2 7 .done) (.ret)
@[simp] def W109_1 := C.w K109_1.eq_1
def K109_2:C:=.seq (.pl <| .e 5 4 <|
 .m 5 4 <|
 .m 6 4 <|
 .x 7 (.bin .quo (.v 6) (.c (.int .i64 64))) <|
 .x 8 (.bin .xor (.v 5) (.v 7)) <|
 .m 4 8 .done) K109_1
@[simp] def W109_2 := C.w K109_2.eq_1
def K109_3:C:=.seq (.pl <| .e 5 45 <|
 .m 5 0 <|
 .x 6 (.nilc (.v 5)) <|
 .x 7 (.fa 0 (.v 6)) <|
 .l 8 7 <|
 .m 9 3 <|
 .m 10 0 <|
 .x 11 (.nilc (.v 10)) <|
 .x 12 (.fa 0 (.v 11)) <|
 .l 13 12 <|
 .x 14 (.lenV (.v 13)) <|
 .x 15 (.bin .rem (.v 9) (.v 14)) <|
 .x 16 (.ia 1 (.v 8) (.v 15)) <|
 .l 17 16 <|
 .x 18 (.conv .i64 (.v 17)) <|
 .x 19 (.bin .mul (.v 18) (.c (.int .i64 131))) <|
 .m 20 0 <|
 .x 21 (.nilc (.v 20)) <|
 .x 22 (.fa 0 (.v 21)) <|
 .l 23 22 <|
 .m 24 3 <|
 .x 25 (.bin .mul (.v 24) (.c (.int .i64 7))) <|
 .x 26 (.bin .add (.v 25) (.c (.int .i64 3))) <|
 .m 27 0 <|
 .x 28 (.nilc (.v 27)) <|
 .x 29 (.fa 0 (.v 28)) <|
 .l 30 29 <|
 .x 31 (.lenV (.v 30)) <|
 .x 32 (.bin .rem (.v 26) (.v 31)) <|
 .x 33 (.ia 1 (.v 23) (.v 32)) <|
 .l 34 33 <|
 .x 35 (.conv .i64 (.v 34)) <|
 .x 36 (.bin .mul (.v 35) (.c (.int .i64 1117))) <|
 .x 37 (.bin .add (.v 19) (.v 36)) <|
 .m 38 3 <|
 .x 39 (.bin .mul (.v 38) (.c (.int .i64 29))) <|
 .x 40 (.bin .add (.v 37) (.v 39)) <|
 .m 41 3 <|
 .m 42 0 <|
 .x 43 (.nilc (.v 42)) <|
 .x 44 (.fa 0 (.v 43)) <|
 .l 45 44 <|
 .x 46 (.lenV (.v 45)) <|
 .x 47 (.bin .quo (.v 41) (.v 46)) <|
 .x 48 (.bin .mul (.v 47) (.c (.int .i64 53))) <|
 .x 49 (.bin .add (.v 40) (.v 48)) <|
 .m 4 49 .done) K109_2
@[simp] def W109_3 := C.w K109_3.eq_1
def K109_4:C:=.seq (.pl <| .e 5 10 <|
 .m 5 0 <|
 .x 6 (.nilc (.v 5)) <|
 .x 7 (.fa 0 (.v 6)) <|
 .l 8 7 <|
 .m 9 3 <|
 .x 10 (.ia 1 (.v 8) (.v 9)) <|
 .l 11 10 <|
 .x 12 (.conv .i64 (.v 11)) <|
 .m 13 1 <|
 .x 14 (.bin .rem (.v 12) (.v 13)) <|
 .m 2 14 .done) (.ret)
@[simp] def W109_4 := C.w K109_4.eq_1
def K109_5:C:=.cond 5 (.v 11) K109_4 (.skip)
@[simp] def W109_5 := C.w K109_5.eq_1
def K109_6:C:=.seq (.seq (.pl <| .e 5 7 <|
 .m 5 3 <|
 .m 6 0 <|
 .x 7 (.nilc (.v 6)) <|
 .x 8 (.fa 0 (.v 7)) <|
 .l 9 8 <|
 .x 10 (.lenV (.v 9)) <|
 .x 11 (.bin .lss (.v 5) (.v 10)) .done) K109_5) K109_3
@[simp] def W109_6 := C.w K109_6.eq_1
def K109_7:C:=.seq (.pl <| .e 5 5 <|
 .m 5 0 <|
 .x 6 (.nilc (.v 5)) <|
 .x 7 (.fa 1 (.v 6)) <|
 .l 8 7 <|
 .x 9 (.bin .sub (.v 8) (.c (.int .i64 1))) <|
 .m 3 9 .done) K109_6
@[simp] def W109_7 := C.w K109_7.eq_1
def K109_8:C:=.seq (.pl <| .e 5 0 <|
 .x 2 (.mv (.c (.int .i64 0))) .done) (.ret)
@[simp] def W109_8 := C.w K109_8.eq_1
def K109_9:C:=.cond 5 (.v 14) K109_8 (.skip)
@[simp] def W109_9 := C.w K109_9.eq_1
def K109_10:C:=.seq (.seq (.pl <| .e 5 10 <|
 .m 5 1 <|
 .x 6 (.bin .lss (.v 5) (.c (.int .i64 1))) <|
 .m 7 6 <|
 .n 7 (.px (some 8) (.mv (.v 0))) <|
 .n 7 (.px (some 9) (.nilc (.v 8))) <|
 .n 7 (.px (some 10) (.fa 0 (.v 9))) <|
 .n 7 (.ld (some 11) (.v 10) none) <|
 .n 7 (.px (some 12) (.lenV (.v 11))) <|
 .n 7 (.px (some 13) (.bin .eql (.v 12) (.c (.int .i64 0)))) <|
 .x 14 (.pick (.v 7) (.c (.bool true)) (.v 13)) .done) K109_9) K109_7
@[simp] def W109_10 := C.w K109_10.eq_1
def K109_11:C:=.seq (.pl <| .e 5 8 <|
 .m 5 0 <|
 .m 6 0 <|
 .x 7 (.nilc (.v 6)) <|
 .x 8 (.fa 1 (.v 7)) <|
 .l 9 8 <|
 .x 10 (.bin .add (.v 9) (.c (.int .i64 1))) <|
 .x 11 (.nilc (.v 5)) <|
 .x 12 (.fa 1 (.v 11)) <|
 .o (.ex none (.store 1 (.v 12) (.v 10))) .done) K109_10
@[simp] def W109_11 := C.w K109_11.eq_1
def B_spec_l16Rd_pick:C:=.seq (.pl <| .e 5 0 <|
 .x 2 (.mv (.c (.int .i64 0))) .done) K109_11
@[simp] def WB_spec_l16Rd_pick := C.w B_spec_l16Rd_pick.eq_1
def R_spec_l16Rd_pick:FIR:=⟨B_spec_l16Rd_pick,5,[(2,none)]⟩
theorem IR_spec_l16Rd_pick:cfun Tryz.prog H_spec_l16Rd_pick Tryz.f109=some R_spec_l16Rd_pick:=by kernel_rfl
theorem EN_spec_l16Rd_pick:ENT Tryz.prog B_spec_l16Rd_pick [(2,none)] 2 5 fn_spec_l16Rd_pick:=fun hargs hw=>enter Tryz.func109 rfl IR_spec_l16Rd_pick hargs hw
def H_spec_l5Formula:Hint:=⟨[(0,false),(2,true),(3,true)],[]⟩
def K107_1:Pl:=.x 5 (.build [.int .i64 0,.int .i64 0,.slice none 0 0] [(0,1,.c (.int .i64 10)),(2,1,.v 4)]) <|
 .o (.pset none 1 0 3 (.v 5)) .done
@[simp] def W107_1 := Pl.w K107_1.eq_1
def K107_2:C:=.seq (.pl <| .e 3 3 <|
 .x 3 (.build [.int .i64 0,.int .i64 0,.slice none 0 0] [(0,1,.c (.int .i64 2))]) <|
 .c 4 (.bls 3 1 [.int .i64 0,.int .i64 0,.slice none 0 0] [(0,3,.v 3)]) K107_1) (.ret)
@[simp] def W107_2 := C.w K107_2.eq_1
def K107_3:C:=.seq (.pl <| .e 3 1 <|
 .o (.pget (some 3) none 2 0 (some 3)) <|
 .o (.pset none 1 0 3 (.v 3)) .done) (.ret)
@[simp] def W107_3 := C.w K107_3.eq_1
def K107_4:C:=.cond 3 (.v 4) K107_3 (.skip)
@[simp] def W107_4 := C.w K107_4.eq_1
def K107_5:C:=.seq (.seq (.pl <| .e 3 2 <|
 .o (.pget (some 3) none 2 0 (some 3)) <|
 .c 4 (.call fn_spec_FormulaValid [.v 3]) .done) K107_4) K107_2
@[simp] def W107_5 := C.w K107_5.eq_1
def K107_6:Pl:=.o (.pnew 2 (.c (.agg #[.int .i64 0,.int .i64 0,.slice none 0 0])) []) <|
 .o (.pset none 2 0 3 (.v 7)) .done
@[simp] def W107_6 := Pl.w K107_6.eq_1
def K107_7:Pl:=.c 7 (.call fn_spec_l5Random [.v 3,.v 6]) K107_6
@[simp] def W107_7 := Pl.w K107_7.eq_1
def K107_8:Pl:=.c 6 (.call fn_spec_l16Rd_num [.v 4,.v 5]) K107_7
@[simp] def W107_8 := Pl.w K107_8.eq_1
def K107_9:C:=.seq (.pl <| .e 3 5 <|
 .m 3 0 <|
 .m 4 0 <|
 .c 5 (.bls 1 4 [.int .i64 0] [(0,1,.c (.int .i64 3)),(1,1,.c (.int .i64 2)),(2,1,.c (.int .i64 4)),(3,1,.c (.int .i64 3))]) K107_8) K107_5
@[simp] def W107_9 := C.w K107_9.eq_1
def B_spec_l5Formula:C:=.seq (.pl <| .e 3 0 <|
 .o (.pnew 1 (.c (.agg #[.int .i64 0,.int .i64 0,.slice none 0 0])) []) .done) K107_9
@[simp] def WB_spec_l5Formula := C.w B_spec_l5Formula.eq_1
def R_spec_l5Formula:FIR:=⟨B_spec_l5Formula,3,[(1,some (some 3))]⟩
theorem IR_spec_l5Formula:cfun Tryz.prog H_spec_l5Formula Tryz.f107=some R_spec_l5Formula:=by kernel_rfl
theorem EN_spec_l5Formula:ENT Tryz.prog B_spec_l5Formula [(1,some (some 3))] 1 3 fn_spec_l5Formula:=fun hargs hw=>enter Tryz.func107 rfl IR_spec_l5Formula hargs hw
def H_spec_l5Mutate:Hint:=⟨[(0,false),(1,false),(3,true),(4,true),(5,true),(9,false)],[]⟩
def K106_1:C:=.seq (.pl <| .e 6 1 <|
 .o (.pget (some 6) none 4 0 (some 3)) <|
 .o (.pset none 3 0 3 (.v 6)) .done) (.ret)
@[simp] def W106_1 := C.w K106_1.eq_1
def K106_2:Pl:=.a 9 4 <|
 .o (.pset (some 9) 4 0 1 (.v 8)) .done
@[simp] def W106_2 := Pl.w K106_2.eq_1
def K106_3:Pl:=.c 8 (.call fn_spec_l16Rd_num [.v 6,.v 7]) K106_2
@[simp] def W106_3 := Pl.w K106_3.eq_1
def K106_4:C:=.pl <| .e 6 4 <|
 .m 6 0 <|
 .c 7 (.bls 1 6 [.int .i64 0] [(0,1,.c (.int .i64 0)),(1,1,.c (.int .i64 11)),(2,1,.c (.int .i64 (-1))),(3,1,.c (.int .i64 2)),(4,1,.c (.int .i64 3)),(5,1,.c (.int .i64 4))]) K106_3
@[simp] def W106_4 := C.w K106_4.eq_1
def K106_5:Pl:=.a 9 4 <|
 .o (.pset (some 9) 4 1 1 (.v 8)) .done
@[simp] def W106_5 := Pl.w K106_5.eq_1
def K106_6:Pl:=.c 8 (.call fn_spec_l16Rd_num [.v 6,.v 7]) K106_5
@[simp] def W106_6 := Pl.w K106_6.eq_1
def K106_7:C:=.pl <| .e 6 4 <|
 .m 6 0 <|
 .c 7 (.bls 1 4 [.int .i64 0] [(0,1,.c (.int .i64 (-1))),(1,1,.c (.int .i64 3)),(2,1,.c (.int .i64 2)),(3,1,.c (.int .i64 9223372036854775807))]) K106_6
@[simp] def W106_7 := C.w K106_7.eq_1
def K106_8:Pl:=.a 11 4 <|
 .o (.pset (some 11) 4 2 1 (.v 10)) .done
@[simp] def W106_8 := Pl.w K106_8.eq_1
def K106_9:Pl:=.o (.psl 9 [.int .i64 0,.int .i64 0,.slice none 0 0] [(0,3,.v 8)]) <|
 .c 10 (.app 40 3 [.int .i64 0,.int .i64 0,.slice none 0 0] (.o (.v 7)) (.p 1 9)) K106_8
@[simp] def W106_9 := Pl.w K106_9.eq_1
def K106_10:C:=.pl <| .e 6 6 <|
 .a 6 4 <|
 .g 7 6 4 2 <|
 .c 8 (.call fn_spec_l5True []) K106_9
@[simp] def W106_10 := C.w K106_10.eq_1
def K106_11:C:=.seq (.pl <| .e 6 1 <|
 .x 6 (.build [.int .i64 0,.int .i64 0,.slice none 0 0] []) <|
 .o (.pset none 3 0 3 (.v 6)) .done) (.ret)
@[simp] def W106_11 := C.w K106_11.eq_1
def K106_12:C:=.cond 6 (.v 7) K106_11 (.skip)
@[simp] def W106_12 := C.w K106_12.eq_1
def K106_13:C:=.seq (.pl <| .e 6 2 <|
 .x 6 (.bin .eql (.v 5) (.c (.int .i64 3))) <|
 .m 7 6 .done) K106_12
@[simp] def W106_13 := C.w K106_13.eq_1
def K106_14:C:=.cond 6 (.v 7) K106_10 K106_13
@[simp] def W106_14 := C.w K106_14.eq_1
def K106_15:C:=.seq (.pl <| .e 6 2 <|
 .x 6 (.bin .eql (.v 5) (.c (.int .i64 2))) <|
 .m 7 6 .done) K106_14
@[simp] def W106_15 := C.w K106_15.eq_1
def K106_16:C:=.cond 6 (.v 7) K106_7 K106_15
@[simp] def W106_16 := C.w K106_16.eq_1
def K106_17:C:=.seq (.pl <| .e 6 2 <|
 .x 6 (.bin .eql (.v 5) (.c (.int .i64 1))) <|
 .m 7 6 .done) K106_16
@[simp] def W106_17 := C.w K106_17.eq_1
def K106_18:C:=.cond 6 (.v 7) K106_4 K106_17
@[simp] def W106_18 := C.w K106_18.eq_1
def K106_19:C:=.block 0 (.seq (.pl <| .e 6 2 <|
 .x 6 (.bin .eql (.v 5) (.c (.int .i64 0))) <|
 .m 7 6 .done) K106_18)
@[simp] def W106_19 := C.w K106_19.eq_1
def K106_20:C:=.seq (.seq (.pl <| .e 6 1 <|
 .m 6 0 <|
 .c 5 (.call fn_spec_l16Rd_pick [.v 6,.c (.int .i64 50)]) .done) K106_19) K106_1
@[simp] def W106_20 := C.w K106_20.eq_1
def K106_21:Pl:=.o (.pnew 4 (.c (.agg #[.int .i64 0,.int .i64 0,.slice none 0 0])) []) <|
 .o (.pset none 4 0 3 (.v 7)) .done
@[simp] def W106_21 := Pl.w K106_21.eq_1
def K106_22:C:=.seq (.pl <| .e 6 2 <|
 .o (.pget (some 6) none 2 0 (some 3)) <|
 .c 7 (.call fn_spec_l5Copy [.v 6]) K106_21) K106_20
@[simp] def W106_22 := C.w K106_22.eq_1
def B_spec_l5Mutate:C:=.seq (.pl <| .e 6 0 <|
 .o (.pnew 2 (.v 1) []) <|
 .o (.pnew 3 (.c (.agg #[.int .i64 0,.int .i64 0,.slice none 0 0])) []) .done) K106_22
@[simp] def WB_spec_l5Mutate := C.w B_spec_l5Mutate.eq_1
def R_spec_l5Mutate:FIR:=⟨B_spec_l5Mutate,6,[(3,some (some 3))]⟩
theorem IR_spec_l5Mutate:cfun Tryz.prog H_spec_l5Mutate Tryz.f106=some R_spec_l5Mutate:=by kernel_rfl
theorem EN_spec_l5Mutate:ENT Tryz.prog B_spec_l5Mutate [(3,some (some 3))] 2 6 fn_spec_l5Mutate:=fun hargs hw=>enter Tryz.func106 rfl IR_spec_l5Mutate hargs hw
def H_spec_l5Random:Hint:=⟨[(0,false),(1,false),(4,true),(5,true),(6,false)],[[]]⟩
def K166_1:C:=.seq (.pl <| .e 5 1 <|
 .o (.pget (some 5) none 3 0 (some 3)) <|
 .o (.pset none 2 0 3 (.v 5)) .done) (.ret)
@[simp] def W166_1 := C.w K166_1.eq_1
def K166_2:C:=.pl <| .e 5 2 <|
 .m 5 4 <|
 .x 6 (.bin .sub (.v 5) (.c (.int .i64 1))) <|
 .m 4 6 .done
@[simp] def W166_2 := C.w K166_2.eq_1
def K166_3:Pl:=.a 13 3 <|
 .o (.pset (some 13) 3 2 1 (.v 12)) .done
@[simp] def W166_3 := Pl.w K166_3.eq_1
def K166_4:Pl:=.o (.psl 11 [.int .i64 0,.int .i64 0,.slice none 0 0] [(0,3,.v 10)]) <|
 .c 12 (.app 40 3 [.int .i64 0,.int .i64 0,.slice none 0 0] (.o (.v 6)) (.p 1 11)) K166_3
@[simp] def W166_4 := Pl.w K166_4.eq_1
def K166_5:C:=.seq (.block 1 (.pl <| .e 5 9 <|
 .a 5 3 <|
 .g 6 5 3 2 <|
 .m 7 0 <|
 .m 8 1 <|
 .x 9 (.bin .sub (.v 8) (.c (.int .i64 1))) <|
 .c 10 (.call fn_spec_l5Random [.v 7,.v 9]) K166_4)) K166_2
@[simp] def W166_5 := C.w K166_5.eq_1
def K166_6:C:=.cond 5 (.v 6) (.skip) (.exit 0)
@[simp] def W166_6 := C.w K166_6.eq_1
def K166_7:C:=.seq (.seq (.pl <| .e 5 2 <|
 .m 5 4 <|
 .x 6 (.bin .gtr (.v 5) (.c (.int .i64 0))) .done) K166_6) K166_5
@[simp] def W166_7 := C.w K166_7.eq_1
def K166_8:C:=.block 0 (.loop 5 [] K166_7)
@[simp] def W166_8 := C.w K166_8.eq_1
def K166_9:Pl:=.m 4 7 .done
@[simp] def W166_9 := Pl.w K166_9.eq_1
def K166_10:C:=.seq (.seq (.pl <| .e 5 3 <|
 .a 5 3 <|
 .g 6 5 3 0 <|
 .c 7 (.call fn_spec_l5Arity [.v 6]) K166_9) K166_8) K166_1
@[simp] def W166_10 := C.w K166_10.eq_1
def K166_11:Pl:=.x 8 (.build [.int .i64 0,.int .i64 0,.slice none 0 0] [(0,1,.v 7)]) <|
 .o (.pnew 3 (.c (.agg #[.int .i64 0,.int .i64 0,.slice none 0 0])) []) <|
 .o (.pset none 3 0 3 (.v 8)) .done
@[simp] def W166_11 := Pl.w K166_11.eq_1
def K166_12:Pl:=.c 7 (.call fn_spec_l16Rd_num [.v 5,.v 6]) K166_11
@[simp] def W166_12 := Pl.w K166_12.eq_1
def K166_13:C:=.seq (.pl <| .e 5 4 <|
 .m 5 0 <|
 .c 6 (.bls 1 8 [.int .i64 0] [(0,1,.c (.int .i64 7)),(1,1,.c (.int .i64 9)),(2,1,.c (.int .i64 10)),(3,1,.c (.int .i64 3)),(4,1,.c (.int .i64 4)),(5,1,.c (.int .i64 5)),(6,1,.c (.int .i64 6)),(7,1,.c (.int .i64 8))]) K166_12) K166_10
@[simp] def W166_13 := C.w K166_13.eq_1
def K166_14:Pl:=.x 8 (.build [.int .i64 0,.int .i64 0,.slice none 0 0] [(0,1,.c (.int .i64 2)),(1,1,.v 7)]) <|
 .o (.pset none 2 0 3 (.v 8)) .done
@[simp] def W166_14 := Pl.w K166_14.eq_1
def K166_15:Pl:=.c 7 (.call fn_spec_l16Rd_num [.v 5,.v 6]) K166_14
@[simp] def W166_15 := Pl.w K166_15.eq_1
def K166_16:C:=.seq (.pl <| .e 5 4 <|
 .m 5 0 <|
 .c 6 (.bls 1 4 [.int .i64 0] [(0,1,.c (.int .i64 0)),(1,1,.c (.int .i64 1)),(2,1,.c (.int .i64 0)),(3,1,.c (.int .i64 2))]) K166_15) (.ret)
@[simp] def W166_16 := C.w K166_16.eq_1
def K166_17:Pl:=.o (.pset none 2 0 3 (.v 5)) .done
@[simp] def W166_17 := Pl.w K166_17.eq_1
def K166_18:C:=.seq (.pl <| .e 5 1 <|
 .c 5 (.call fn_spec_l5True []) K166_17) (.ret)
@[simp] def W166_18 := C.w K166_18.eq_1
def K166_19:C:=.cond 5 (.v 7) K166_18 (.skip)
@[simp] def W166_19 := C.w K166_19.eq_1
def K166_20:Pl:=.x 7 (.bin .eql (.v 6) (.c (.int .i64 0))) .done
@[simp] def W166_20 := Pl.w K166_20.eq_1
def K166_21:C:=.seq (.seq (.pl <| .e 5 3 <|
 .m 5 0 <|
 .c 6 (.call fn_spec_l16Rd_pick [.v 5,.c (.int .i64 8)]) K166_20) K166_19) K166_16
@[simp] def W166_21 := C.w K166_21.eq_1
def K166_22:C:=.cond 5 (.v 11) K166_21 (.skip)
@[simp] def W166_22 := C.w K166_22.eq_1
def K166_23:Pl:=.n 7 (.px (some 10) (.bin .eql (.v 9) (.c (.int .i64 0)))) <|
 .x 11 (.pick (.v 7) (.c (.bool true)) (.v 10)) .done
@[simp] def W166_23 := Pl.w K166_23.eq_1
def K166_24:C:=.seq (.seq (.pl <| .e 5 7 <|
 .m 5 1 <|
 .x 6 (.bin .lss (.v 5) (.c (.int .i64 2))) <|
 .m 7 6 <|
 .n 7 (.px (some 8) (.mv (.v 0))) <|
 .st (.act (some (.v 7,false)) (.ex (some 9) (.call fn_spec_l16Rd_pick [.v 8,.c (.int .i64 5)]))) K166_23) K166_22) K166_13
@[simp] def W166_24 := C.w K166_24.eq_1
def B_spec_l5Random:C:=.seq (.pl <| .e 5 0 <|
 .o (.pnew 2 (.c (.agg #[.int .i64 0,.int .i64 0,.slice none 0 0])) []) .done) K166_24
@[simp] def WB_spec_l5Random := C.w B_spec_l5Random.eq_1
def R_spec_l5Random:FIR:=⟨B_spec_l5Random,5,[(2,some (some 3))]⟩
theorem IR_spec_l5Random:cfun Tryz.prog H_spec_l5Random Tryz.f166=some R_spec_l5Random:=by kernel_rfl
theorem EN_spec_l5Random:ENT Tryz.prog B_spec_l5Random [(2,some (some 3))] 2 5 fn_spec_l5Random:=fun hargs hw=>enter Tryz.func166 rfl IR_spec_l5Random hargs hw
def H_spec_l6Word:Hint:=⟨[(0,false),(1,false),(4,false),(5,false),(6,false)],[[2]]⟩
def K111_1:C:=.seq (.pl <| .e 5 1 <|
 .m 5 3 <|
 .m 2 5 .done) (.ret)
@[simp] def W111_1 := C.w K111_1.eq_1
def K111_2:C:=.pl <| .e 5 2 <|
 .m 5 4 <|
 .x 6 (.bin .add (.v 5) (.c (.int .i64 1))) <|
 .m 4 6 .done
@[simp] def W111_2 := C.w K111_2.eq_1
def K111_3:Pl:=.m 3 10 .done
@[simp] def W111_3 := Pl.w K111_3.eq_1
def K111_4:Pl:=.o (.psl 9 [.int .i64 0] [(0,1,.v 8)]) <|
 .c 10 (.app 8 1 [.int .i64 0] (.o (.v 5)) (.p 1 9)) K111_3
@[simp] def W111_4 := Pl.w K111_4.eq_1
def K111_5:Pl:=.c 8 (.call fn_spec_l16Rd_num [.v 6,.v 7]) K111_4
@[simp] def W111_5 := Pl.w K111_5.eq_1
def K111_6:C:=.seq (.block 1 (.pl <| .e 5 6 <|
 .m 5 3 <|
 .m 6 0 <|
 .c 7 (.bls 1 9 [.int .i64 0] [(0,1,.c (.int .i64 0)),(1,1,.c (.int .i64 1)),(2,1,.c (.int .i64 2)),(3,1,.c (.int .i64 3)),(4,1,.c (.int .i64 1)),(5,1,.c (.int .i64 0)),(6,1,.c (.int .i64 5)),(7,1,.c (.int .i64 4)),(8,1,.c (.int .i64 7))]) K111_5)) K111_2
@[simp] def W111_6 := C.w K111_6.eq_1
def K111_7:C:=.cond 5 (.v 7) (.skip) (.exit 0)
@[simp] def W111_7 := C.w K111_7.eq_1
def K111_8:C:=.seq (.seq (.pl <| .e 5 3 <|
 .m 5 4 <|
 .m 6 1 <|
 .x 7 (.bin .lss (.v 5) (.v 6)) .done) K111_7) K111_6
@[simp] def W111_8 := C.w K111_8.eq_1
def K111_9:C:=.block 0 (.loop 5 [2] K111_8)
@[simp] def W111_9 := C.w K111_9.eq_1
def K111_10:C:=.seq (.seq (.pl <| .e 5 0 <|
 .x 4 (.mv (.c (.int .i64 0))) .done) K111_9) K111_1
@[simp] def W111_10 := C.w K111_10.eq_1
def K111_11:Pl:=.m 3 5 .done
@[simp] def W111_11 := Pl.w K111_11.eq_1
def K111_12:C:=.seq (.pl <| .e 5 1 <|
 .c 5 (.bls 1 0 [.int .i64 0] []) K111_11) K111_10
@[simp] def W111_12 := C.w K111_12.eq_1
def B_spec_l6Word:C:=.seq (.pl <| .e 5 0 <|
 .x 2 (.mv (.c (.slice none 0 0))) .done) K111_12
@[simp] def WB_spec_l6Word := C.w B_spec_l6Word.eq_1
def R_spec_l6Word:FIR:=⟨B_spec_l6Word,5,[(2,none)]⟩
theorem IR_spec_l6Word:cfun Tryz.prog H_spec_l6Word Tryz.f111=some R_spec_l6Word:=by kernel_rfl
theorem EN_spec_l6Word:ENT Tryz.prog B_spec_l6Word [(2,none)] 2 5 fn_spec_l6Word:=fun hargs hw=>enter Tryz.func111 rfl IR_spec_l6Word hargs hw
end Go.Proofs.YtbanccfdojgocaaGreat

namespace Go.Proofs.YtbanccfdojgocaaGreat
open Go
universe u
section
variable {α:Type} [Ty α] {h:Heap}{v:Value}
theorem Rep.X {l:List α}(hr:Rep h v l) {n:Nat}(hn:n=Ty.sz α):(∀(kd:IntKind) (i:Nat),i<l.length→iaV n v (.int kd i)=some (elp n v i))∧(∀(kd:IntKind) (i:Int),0≤i→i<l.length→iaV n v (.int kd i)=some (elp n v i.toNat))∧lenVV v=some (.int .i64 l.length):=
 ⟨fun _ _ h1=>hr.ian hn h1,fun _ _ h0 h1=>hr.ia' hn h0 h1,hr.len⟩
end
section
variable {h:Heap}{v:Value}
theorem Rep.I {l:List Int}(hr:Rep h v l):((∀(kd:IntKind) (i:Nat),i<l.length→iaV 1 v (.int kd i)=some (elp 1 v i))∧(∀(kd:IntKind) (i:Int),0≤i→i<l.length→iaV 1 v (.int kd i)=some (elp 1 v i.toNat))∧lenVV v=some (.int .i64 l.length)) ∧
  ∀(i:Nat) (hi:i<l.length),hload h (some (elp 1 v i)) none=some (.int .i64 l[i]):=⟨hr.X rfl,fun _ hi=>hr.ldI hi⟩
theorem Rep.B {l:List Bool}(hr:Rep h v l):((∀(kd:IntKind) (i:Nat),i<l.length→iaV 1 v (.int kd i)=some (elp 1 v i))∧(∀(kd:IntKind) (i:Int),0≤i→i<l.length→iaV 1 v (.int kd i)=some (elp 1 v i.toNat))∧lenVV v=some (.int .i64 l.length)) ∧
  ∀(i:Nat) (hi:i<l.length),hload h (some (elp 1 v i)) none=some (.bool l[i]):=⟨hr.X rfl,fun _ hi=>hr.ldB hi⟩
theorem Rep.S {l:List ByteArray}(hr:Rep h v l):((∀(kd:IntKind) (i:Nat),i<l.length→iaV 1 v (.int kd i)=some (elp 1 v i))∧(∀(kd:IntKind) (i:Int),0≤i→i<l.length→iaV 1 v (.int kd i)=some (elp 1 v i.toNat))∧lenVV v=some (.int .i64 l.length)) ∧
  ∀(i:Nat) (hi:i<l.length),hload h (some (elp 1 v i)) none=some (.string l[i]):=⟨hr.X rfl,fun _ hi=>hr.ldS hi⟩
theorem Rep.U {l:List (BitVec 64)}(hr:Rep h v l):((∀(kd:IntKind) (i:Nat),i<l.length→iaV 1 v (.int kd i)=some (elp 1 v i))∧(∀(kd:IntKind) (i:Int),0≤i→i<l.length→iaV 1 v (.int kd i)=some (elp 1 v i.toNat))∧lenVV v=some (.int .i64 l.length)) ∧
  ∀(i:Nat) (hi:i<l.length),hload h (some (elp 1 v i)) none=some (.int .u64 l[i].toNat):=⟨hr.X rfl,fun _ hi=>hr.ldU hi⟩
theorem Rep.ldL {α:Type} [Ty α] {l:List (List α)}(hr:Rep h v l) {i:Nat}(hi:i<l.length):∃u,hload h (some (elp 1 v i)) none=some u∧Rep h u l[i]:=hr.ld hi
end
theorem IteW.mkr {p A B:Prop}(h2:¬p→B) (h1:p→A):IteW p A B:=⟨h1,h2⟩
theorem wp_while {P:Program}{Q:Ex→Env→Heap→Prop}{e:Env}{h:Heap}{n:Nat}{fg:List Nat}{a:C}{σ:Type}(Enc:σ→Env→Heap→Prop) (m:σ→Nat) (s0:σ) (h0:Enc s0 (efgt (e.take n) fg) h)
  (hs:∀(J:Env→Heap→Prop) s e h,(∀s' e h,m s'<m s→Enc s' e h→J e h)→Enc s e h→a.wp P (loopQ n fg J Q) e h):(C.loop n fg a).wp P Q e h:=by
 refine wp_loop (fun k e h=>∃s,m s=k∧Enc s e h) ⟨_,s0,rfl,h0⟩ ?_
 rintro I' k e h hI ⟨s,rfl,hE⟩
 exact hs I' s e h (fun s' e h hlt hE=>hI (m s') e h hlt ⟨s',rfl,hE⟩) hE
theorem own1 {α:Type} [Ty α] (ha:Ty.agg α=false) {r:Heap}{cs:List Value}{x:α}:Ty.own r cs x↔∃v,cs=[v]∧Own r v x:=by
 constructor
 ·intro ho
  have hl:=Ty.len (Ty.own_rep ho)
  rw[Ty.one ha] at hl
  match cs,hl with
  | [v],_=>exact⟨v,rfl,[v],by simp[valC,ha],ho⟩
 ·rintro⟨v,rfl,c,h1,h2⟩
  have hl:=Ty.len (Ty.own_rep h2)
  rw[Ty.one ha] at hl
  match c,hl with
  | [u],_=>simp[valC,ha] at h1; subst h1; exact h2
theorem rep1 {α:Type} [Ty α] (ha:Ty.agg α=false) {r:Heap}{cs:List Value}{x:α}:Ty.rep r cs x↔∃v,cs=[v]∧Rep r v x:=by
 constructor
 ·intro ho
  have hl:=Ty.len ho
  rw[Ty.one ha] at hl
  match cs,hl with
  | [v],_=>exact⟨v,rfl,[v],by simp[valC,ha],ho⟩
 ·rintro⟨v,rfl,c,h1,h2⟩
  have hl:=Ty.len h2
  rw[Ty.one ha] at hl
  match c,hl with
  | [u],_=>simp[valC,ha] at h1; subst h1; exact h2
section
variable {α:Type} [Ty α] {h:Heap}{v:Value}{l:List α}{i:Nat}
theorem Rep.fld [Flat α] (hr:Rep h v l) (hi:i<l.length) {n j:Nat}(hn:n=Ty.sz α) {u:Value}(hj:(Flat.enc l[i])[j]? = some u):hload h (some (elpo n v i j)) none=some u:=by
 subst hn
 obtain⟨p,cap,rfl,hc,hp,hl⟩:=Rep_list.1 hr
 obtain⟨b,off,vs,rfl,h1,h2⟩:=hl i hi
 rw[← (Flat.rep_iff.1 h2).1] at hj
 have:=(hcells_get h1).2 j u hj
 simp[elpo,add_none,hload,this]
end
theorem Rep.A {α:Type} [Ty α] {h:Heap}{v:Value}{x:α}(hr:Rep h v x) (ha:Ty.agg α=true) {n:Nat}(hn:n=Ty.sz α):pgetV (some v) 0 (some n)=some v∧v.cells.size=n∧allOne v.cells.toList=true∧Value.agg v.cells=v:=by
 obtain⟨cs,rfl,h1⟩:=hr
 have h2:=Ty.len h1
 have h3:=Ty.cell h1
 subst hn
 simp only[valC,ha,if_true]
 refine⟨?_,by simpa using h2,?_,rfl⟩
 ·simp[h2]
 ·rw[← allOne_eq]; simpa using h3
def owC {α:Type} [Ty α] (cs:List Value) (x:α):HP:=fun r=>Ty.own r cs x
section
variable {g h:Heap}{Γ:List HP}
theorem HS.join2 {p p1 p2:HP}(H:HS g (p1::p2::Γ) h) (hp:∀r1 r2,Dj r1 r2→p1 r1→p2 r2→p (r1.add r2)):HS g (p::Γ) h:=by
 obtain⟨g1,r1,rfl,d1,h1,g',r2,rfl,d2,h2,H⟩:=H
 obtain⟨d3,d4⟩:=add_Dj.1 d1
 refine⟨g',r1.add r2,?_,Dj_add.2 ⟨d3,d2⟩,hp r1 r2 d4.symm h1 h2,H⟩
 rw[add_assoc,d4.comm]
theorem HS.via {α β:Type} [Ty β] (f:α→β) {cs:List Value}{x:α}(H:HS g (owC cs (f x)::Γ) h):HS g (@ow α (Ty.via f) (.agg cs.toArray) x::Γ) h:=
 H.imp fun _ ho=>⟨cs,rfl,ho⟩
theorem HS.one {α:Type} [Ty α] (ha:Ty.agg α=false) {v:Value}{x:α}(H:HS g (ow v x::Γ) h):HS g (owC [v] x::Γ) h:=H.imp fun _ ho=>(own1 ha).2 ⟨v,rfl,ho⟩
theorem HS.prod {α β:Type} [Ty α] [Ty β] (ha:Ty.agg α=false) {v:Value}{cs:List Value}{x:α}{y:β}(H:HS g (ow v x::owC cs y::Γ) h):HS g (owC (v::cs) (x,y)::Γ) h:=
 H.join2 fun r1 r2 d h1 h2=>⟨[v],cs,r1,r2,rfl,rfl,d,(own1 ha).2 ⟨v,rfl,h1⟩,h2⟩
end
class Sz (α:Type) where
 sz:α→Nat
instance:Sz Int:=⟨fun _=>0⟩
instance:Sz Bool:=⟨fun _=>0⟩
def szL {α:Type} [Sz α]:List α→Nat
 | []=>0
 | x::l=>Sz.sz x+szL l
instance instSzList {α:Type} [Sz α]:Sz (List α):=⟨fun l=>l.length+szL l⟩
theorem sz_list {α:Type} [Sz α] (l:List α):Sz.sz l=l.length+szL l:=rfl
theorem szL_get {α:Type} [Sz α]:∀{l:List α}{i:Nat}(hi:i<l.length),Sz.sz l[i]≤szL l
 | x::l,0,_=>by simp[szL]
 | x::l,i+1,hi=>by
  have:=szL_get (l:=l) (i:=i) (by simpa using hi)
  simp[szL]; omega
class Mk (α:Type) where
 cnt:α→Nat
 wr:Int→α→α
 cnt_wr:∀k x,cnt (wr k x)=cnt x
 wr_wr:∀k j x,wr k (wr j x)=wr k x
def cntL {α:Type} [Mk α]:List α→Nat
 | []=>0
 | x::l=>Mk.cnt x+cntL l
def mkL {α:Type} [Mk α]:Int→List α→List α
 | _,[]=>[]
 | k,x::l=>Mk.wr k x::mkL (k+Mk.cnt x) l
section
variable {α:Type} [Mk α]
theorem cntL_mk:∀(k:Int) (l:List α),cntL (mkL k l)=cntL l
 | _,[]=>rfl
 | k,x::l=>by simp[cntL,mkL,Mk.cnt_wr,cntL_mk (k+Mk.cnt x) l]
theorem mkL_mk:∀(k j:Int) (l:List α),mkL k (mkL j l)=mkL k l
 | _,_,[]=>rfl
 | k,j,x::l=>by simp[mkL,Mk.cnt_wr,Mk.wr_wr,mkL_mk (k+Mk.cnt x) (j+Mk.cnt x) l]
@[simp] theorem mkL_length:∀(k:Int) (l:List α),(mkL k l).length=l.length
 | _,[]=>rfl
 | k,x::l=>by simp[mkL,mkL_length (k+Mk.cnt x) l]
theorem mkL_get:∀(k:Int) (l:List α) (i:Nat) (hi:i<l.length),(mkL k l)[i]'(by simpa using hi)=Mk.wr (k+cntL (l.take i)) l[i]
 | _,[],i,hi=>by simp at hi
 | k,x::l,0,_=>by simp[mkL,cntL]
 | k,x::l,i+1,hi=>by
  simp only[mkL,List.getElem_cons_succ,List.take_succ_cons,cntL]
  rw[mkL_get (k+Mk.cnt x) l i (by simpa using hi)]
  congr 1
  push_cast
  omega
instance instMkList:Mk (List α):=⟨cntL,mkL,cntL_mk,mkL_mk⟩
end
instance instMkInt:Mk Int:=⟨fun _=>1,fun k _=>k,fun _ _=>rfl,fun _ _ _=>rfl⟩
instance instMkBool:Mk Bool:=⟨fun _=>1,fun k _=>decide (k.tmod 3=0),fun _ _=>rfl,fun _ _ _=>rfl⟩
structure Mkd {α:Type} [Mk α] (k:Int) (x y:List α) (i:Nat):Prop where
 len:y.length=x.length
 done:y.take i=(mkL k x).take i
 rest:y.drop i=x.drop i
section
variable {α:Type} [Mk α] {k:Int}{x y:List α}{i:Nat}
theorem Mkd.zero:Mkd k x x 0:=⟨rfl,rfl,rfl⟩
theorem Mkd.get (h:Mkd k x y i) (hi:i<x.length):y[i]'(by rw[h.len]; exact hi)=x[i]:=by
 have:=congrArg (fun l=>l[0]?) h.rest
 simp[List.getElem?_drop,hi,h.len] at this
 exact this
theorem Mkd.step (h:Mkd k x y i) (hi:i<x.length):Mkd k x (y.set i (Mk.wr (k+cntL (x.take i)) x[i])) (i+1):=by
 refine⟨by simp[h.len],?_,?_⟩
 ·have:=take_set_succ (x:=mkL k x) h.done (by simpa using hi) (by simpa using h.len)
  rwa [mkL_get k x i hi] at this
 ·rw[List.drop_set_of_lt (by omega)]
  have:=congrArg (List.drop 1) h.rest
  simpa[List.drop_drop] using this
theorem Mkd.all (h:Mkd k x y i) (hi:x.length≤i):y=mkL k x:=eq_of_take h.done (by simpa using hi) (by simpa using h.len)
end
theorem take_step {α:Type}{x y:List α}{i:Nat}(h:x.take i=y.take i) (h1:i<x.length) (h2:i<y.length) (he:x[i]=y[i]):x.take (i+1)=y.take (i+1):=by
 rw[List.take_add_one,List.take_add_one,h,List.getElem?_eq_getElem h1,List.getElem?_eq_getElem h2,he]
@[simp] theorem ite_lt_zero {α:Type}{b:Int}{x y:α}(h:0≤b):(if b<0 then x else y)=y:=if_neg (by omega)
def setB (a:BitVec 64) (j:Nat):BitVec 64:=a ||| (1#64 <<< j)
theorem one_bit {j i:Nat}(hj:j<64):(1#64 <<< j).getLsbD i=decide (i=j):=by
 rw[BitVec.getLsbD_shiftLeft,BitVec.getLsbD_one]
 by_cases h1:i=j
 ·subst h1; simp[hj]
 ·by_cases h2:i<j
  ·simp[h1,h2]
  ·have h3:¬(i-j=0):=by omega
   simp[h1,h3]
theorem setB_get {a:BitVec 64}{j i:Nat}(hj:j<64):(setB a j).getLsbD i=(a.getLsbD i || decide (i=j)):=by
 rw[setB,BitVec.getLsbD_or,one_bit hj]
structure W8 where
 l:List (BitVec 64)
 len:l.length=8
def W8.zero:W8:=⟨List.replicate 8 0,rfl⟩
def W8.put (w:W8) (j:Nat) (x:BitVec 64):W8:=⟨w.l.set j x,by simp[w.len]⟩
def W8.at (w:W8) (j:Nat):BitVec 64:=w.l.getD j 0
def W8.enc (w:W8):List Value:=w.l.map fun b=>.int .u64 b.toNat
instance instTyW8:Ty W8 where
 agg:=true
 sz:=8
 rep:=fun _ cs x=>cs=x.enc
 own:=fun r cs x=>r=Heap.nil∧cs=x.enc
 one:=fun h=>by simp at h
 len:=by rintro h cs x rfl; simp[W8.enc,x.len]
 cell:=by
  rintro h cs x rfl v hv
  simp only[W8.enc,List.mem_map] at hv
  obtain⟨b,_,rfl⟩:=hv
  rfl
 mono:=fun _ hr=>hr
 own_rep:=fun ho=>ho.2
instance instFlatW8:Flat W8:=⟨W8.enc,fun _=>True,by simp[Ty.rep],by simp[Ty.own]⟩
theorem W8.enc_at (w:W8) {j:Nat}(hj:j<8):w.enc[j]? = some (.int .u64 (w.at j).toNat):=by
 have:j<w.l.length:=by rw[w.len]; exact hj
 simp[W8.enc,W8.at,this]
theorem W8.put_at (w:W8) {j i:Nat}{x:BitVec 64}(hj:j<8):(w.put j x).at i=if i=j then x else w.at i:=by
 have:j<w.l.length:=by rw[w.len]; exact hj
 simp only[W8.at,W8.put,List.getD_eq_getElem?_getD,List.getElem?_set]
 split
 ·rename_i h; subst h; simp[this]
 ·rename_i h; rw[if_neg (fun h2=>h h2.symm)]
section
variable {α:Type} [Ty α] {h:Heap}{v:Value}{l:List α}{i:Nat}
theorem Rep.iaA (hr:Rep h v l) (hi:i<l.length) {n m:Nat}{kd:IntKind}{j:Nat}(hj:j<m):iaAV m 1 (elp n v i) (.int kd j)=some (elpo n v i j):=by
 obtain⟨p,cap,rfl,hc,hp,hl⟩:=Rep_list.1 hr
 obtain⟨b,off,vs,rfl,_⟩:=hl i hi
 have:(j:Int)<m:=by omega
 simp[iaAV,elp,elpo,this]
theorem Rep.W {l:List W8}(hr:Rep h v l):((∀(kd:IntKind) (i:Nat),i<l.length→iaV 8 v (.int kd i)=some (elp 8 v i))∧(∀(kd:IntKind) (i:Int),0≤i→i<l.length→iaV 8 v (.int kd i)=some (elp 8 v i.toNat))∧lenVV v=some (.int .i64 l.length)) ∧
  (∀(kd:IntKind) (i j:Nat),i<l.length→j<8→iaAV 8 1 (elp 8 v i) (.int kd j)=some (elpo 8 v i j)) ∧
  ∀(i j:Nat) (hi:i<l.length),j<8→hload h (some (elpo 8 v i j)) none=some (.int .u64 (l[i].at j).toNat):=
 ⟨hr.X rfl,fun _ _ _ hi hj=>hr.iaA hi hj,fun _ _ hi hj=>hr.fld hi rfl (W8.enc_at _ hj)⟩
end
theorem Rep.isNil {α:Type} [Ty α] {h:Heap}{v:Value}{l:List α}(hr:Rep h v l):∃b,isNilV false v=some (.bool b)∧(b=true→l=[]):=by
 obtain⟨p,cap,rfl,h1,h2,h3⟩:=Rep_list.1 hr
 refine⟨p.isNone,rfl,fun hp=>?_⟩
 cases l with
 | nil=>rfl
 | cons x l=>obtain⟨b,off,vs,h4,_⟩:=h3 0 (by simp); subst h4; simp at hp
theorem Own.clip {α:Type} [Ty α] {r:Heap}{v:Value}{l:List α}(O:Own r v l) {esz:Nat}{k:IntKind} :
  ∃v',sliceVV esz v none (some (some (.int k l.length))) (some (some (.int k l.length)))=some v'∧Own r v' l:=by
 rcases Own_list.1 O with ⟨p,rfl,rfl,rfl,hp⟩ | ⟨b,off,cap,cells,el,r',rfl,⟨h1,hM⟩,h2,rfl,h4,h5⟩
 ·refine⟨.slice p 0 0,?_,Own_list.2 (.inl ⟨p,rfl,rfl,rfl,hp⟩)⟩
  simp[sliceVV,bndV]
 ·refine⟨.slice (some ⟨b,off,none⟩) l.length l.length,?_,Own_list.2 (.inr ⟨b,off,l.length,cells,el,r',rfl,⟨Nat.le_refl _,hM⟩,?_,rfl,h4,h5⟩)⟩
  ·simp[sliceVV,bndV,add_none,h1]
  ·have:l.length*Ty.sz α≤cap*Ty.sz α:=Nat.mul_le_mul_right _ h1
   omega
theorem HS.clip {α:Type} [Ty α] {g h:Heap}{Γ:List HP}{v:Value}{l:List α}(H:HS g (ow v l::Γ) h) {esz:Nat}{k:IntKind} :
  ∃v',sliceVV esz v none (some (some (.int k l.length))) (some (some (.int k l.length)))=some v'∧HS g (ow v' l::Γ) h:=by
 obtain⟨g',r,rfl,d,O,H⟩:=H
 obtain⟨v',h1,O'⟩:=O.clip (esz:=esz) (k:=k)
 exact⟨v',h1,g',r,rfl,d,O',H⟩
theorem HS.bls0 {P:Program}{k:Env→Heap→Prop}{e:Env}{g h:Heap}{Γ:List HP}(H:HS g Γ h) (α:Type) [Ty α] {esz:Nat}{zero:List Value}{dst:Nat}
  (K:∀v' h',HS g (ow v' ([]:List α)::Γ) h'→k (eset e dst (some v')) h'):(A.ex (some dst) (.bls esz 0 zero [])).wp P k e h:=by
 refine⟨[],rfl,fun b el hb=>Fgt.keep ?_⟩
 rw[set_new hb]
 exact K _ _ ⟨h,_,rfl,Dj_one.2 hb,Own_list.2 (.inr ⟨b,0,0,[],el,Heap.nil,rfl,⟨Nat.le_refl _,by simp⟩,by simp,by simp,rfl,rfl⟩),H⟩
@[simp] theorem faV_ptr {b o off:Nat}:faV off (.pointer (some ⟨b,o,none⟩))=some (.pointer (some ⟨b,o+off,none⟩)):=by simp[faV,add_none]
attribute [simp] Option.bind_some
end Go.Proofs.YtbanccfdojgocaaGreat

namespace Go.Proofs.YtbanccfdojgocaaGreat
open Go
section
variable {g h:Heap}{Γ:List HP}
theorem HS.bk5 {a b c d f f':HP}(H:HS g (f'::a::b::c::d::f::Γ) h):HS g (a::b::c::d::f::f'::Γ) h:=H.sw5.sw5.sw5.sw5.sw5
theorem HS.bk6 {a b c d f f' f2:HP}(H:HS g (f2::a::b::c::d::f::f'::Γ) h):HS g (a::b::c::d::f::f'::f2::Γ) h:=H.sw6.sw6.sw6.sw6.sw6.sw6
theorem HS.sw7 {a b c d f f' f2 f3:HP}(H:HS g (a::b::c::d::f::f'::f2::f3::Γ) h):HS g (f3::a::b::c::d::f::f'::f2::Γ) h:=(H.under fun _=>HS.sw6).sw1
theorem HS.sw8 {a b c d f f' f2 f3 f4:HP}(H:HS g (a::b::c::d::f::f'::f2::f3::f4::Γ) h):HS g (f4::a::b::c::d::f::f'::f2::f3::Γ) h:=(H.under fun _=>HS.sw7).sw1
theorem HS.sw9 {a b c d f f' f2 f3 f4 f5:HP}(H:HS g (a::b::c::d::f::f'::f2::f3::f4::f5::Γ) h):HS g (f5::a::b::c::d::f::f'::f2::f3::f4::Γ) h:=(H.under fun _=>HS.sw8).sw1
theorem HS.sw10 {a b c d f f' f2 f3 f4 f5 f6:HP}(H:HS g (a::b::c::d::f::f'::f2::f3::f4::f5::f6::Γ) h):HS g (f6::a::b::c::d::f::f'::f2::f3::f4::f5::Γ) h:=(H.under fun _=>HS.sw9).sw1
theorem HS.sw11 {a b c d f f' f2 f3 f4 f5 f6 f7:HP}(H:HS g (a::b::c::d::f::f'::f2::f3::f4::f5::f6::f7::Γ) h):HS g (f7::a::b::c::d::f::f'::f2::f3::f4::f5::f6::Γ) h:=(H.under fun _=>HS.sw10).sw1
theorem HS.rebase:∀{Δ Γ:List HP}{h:Heap},HS g (Δ++Γ) h→∃g1,HS g Γ g1∧HS g1 Δ h
 | [],_,h,H=>⟨h,H,HS.init⟩
 | _::_,_,_,⟨g',r,e,d,hp,H⟩=>by
  obtain⟨g1,h1,h2⟩:=H.rebase
  exact⟨g1,h1,g',r,e,d,hp,h2⟩
end
def mpo {κ ν:Type}(kf:κ→Value) (vf:ν→Value) (b:Nat) (l:List (κ×ν)):HP:=fun r=>∃es clock,r=Heap.one b (.map es clock)∧es.toList.map (fun e=>(e.key,e.val))=l.map fun p=>(kf p.1,vf p.2)
def mlk {κ ν:Type} [DecidableEq κ] (l:List (κ×ν)) (a:κ):Option ν:=(l.find? fun p=>decide (p.1=a)).map (·.2)
theorem mlk_nil {κ ν:Type} [DecidableEq κ] {a:κ}:mlk ([]:List (κ×ν)) a=none:=rfl
theorem mlk_snoc {κ ν:Type} [DecidableEq κ] {l:List (κ×ν)}{a b:κ}{y:ν}(hn:mlk l a=none):mlk (l++[(a,y)]) b=if a=b then some y else mlk l b:=by
 unfold mlk at hn ⊢
 rw[List.find?_append]
 by_cases h:a=b
 ·subst h
  simp at hn
  rw[if_pos rfl,List.find?_eq_none.2 (by simpa using hn)]
  simp
 ·rw[if_neg h]
  simp[h]
theorem mfind_spec {κ ν:Type} [DecidableEq κ] {kf:κ→Value}{vf:ν→Value}{kt:KT}(hkt:∀a b,keyEq kt (kf a) (kf b)=some (decide (a=b))) {a:κ}:∀{es:List MapEntry}{l:List (κ×ν)}{i0:Nat},es.map (fun e=>(e.key,e.val))=l.map (fun p=>(kf p.1,vf p.2)) →
  ∃i,mfind kt (kf a) es i0=some ((mlk l a).map fun y=>(i,vf y))
 | [],[],_,_=>⟨0,rfl⟩
 | [],_::_,_,h=>by simp at h
 | _::_,[],_,h=>by simp at h
 | x::es,p::l,i0,h=>by
  simp only[List.map_cons,List.cons.injEq,Prod.mk.injEq] at h
  obtain⟨⟨h1,h2⟩,h3⟩:=h
  obtain⟨i,hi⟩:=mfind_spec hkt (a:=a) (i0:=i0+1) h3
  unfold mfind
  rw[h1,hkt,h2]
  by_cases he:a=p.1
  ·subst he
   refine⟨i0,?_⟩
   simp[mlk]
  ·refine⟨i,?_⟩
   simp only[he,decide_false]
   rw[hi]
   simp[mlk,List.find?_cons,Ne.symm he,show ¬p.1=a from fun e=>he e.symm]
section
variable {P:Program}{k:Env→Heap→Prop}{e:Env}{g h:Heap}{Γ:List HP}{κ ν:Type} [DecidableEq κ] {kf:κ→Value}{vf:ν→Value}{b:Nat}{l:List (κ×ν)}{kt:KT}
theorem HS.mkm (H:HS g Γ h) (kf:κ→Value) (vf:ν→Value) {dst:Nat}(K:∀b h',HS g (mpo kf vf b []::Γ) h'→k (eset e dst (some (.map (some b)))) h'):(A.ex (some dst) .mkm).wp P k e h:=by
 intro b hb
 refine Fgt.keep ?_
 rw[set_new hb]
 exact K _ _ ⟨h,_,rfl,Dj_one.2 hb,⟨_,_,rfl,rfl⟩,H⟩
theorem HS.mget (H:HS g (mpo kf vf b l::Γ) h) {zero:Value}{ok:Bool}{m x:O}{a:κ}{dst:Nat}(hm:m.get e=some (.map (some b))) (hx:x.get e=some (kf a)) (hkt:∀a b,keyEq kt (kf a) (kf b)=some (decide (a=b)))
  (K:k (eset e dst (some (if ok then .tuple #[((mlk l a).map vf).getD zero,.bool (mlk l a).isSome] else ((mlk l a).map vf).getD zero))) h):(A.ex (some dst) (.mget kt zero ok m x)).wp P k e h:=by
 obtain⟨g',r,rfl,d,⟨es,clock,rfl,hes⟩,H⟩:=H
 obtain⟨i,hi⟩:=mfind_spec hkt (a:=a) (i0:=0) hes
 refine⟨b,es,clock,kf a,_,hm,le_add' d _ _ (by simp[Heap.one]),hx,by rw[hkt]; rfl,hi,Fgt.keep ?_⟩
 cases hl:mlk l a with
 | none=>rw[hl] at K; cases ok <;> exact K
 | some y=>rw[hl] at K; cases ok <;> exact K
theorem HS.mput (H:HS g (mpo kf vf b l::Γ) h) {m x y:O}{a:κ}{v:ν}(hm:m.get e=some (.map (some b))) (hx:x.get e=some (kf a)) (hy:y.get e=some (vf v)) (hkt:∀a b,keyEq kt (kf a) (kf b)=some (decide (a=b))) (hn:mlk l a=none)
  (K:∀h',HS g (mpo kf vf b (l++[(a,v)])::Γ) h'→k e h'):(A.ex none (.mput kt m x y)).wp P k e h:=by
 obtain⟨g',r,rfl,d,⟨es,clock,rfl,hes⟩,H⟩:=H
 obtain⟨i,hi⟩:=mfind_spec hkt (a:=a) (i0:=0) hes
 rw[hn] at hi
 refine⟨b,es,clock,kf a,vf v,none,hm,le_add' d _ _ (by simp[Heap.one]),hx,hy,by rw[hkt]; rfl,hi,Fgt.keep ?_⟩
 refine K _ ⟨g',Heap.one b (.map (es.push { key:=kf a,val:=vf v,born:=clock }) (clock+1)),?_,?_,⟨_,_,rfl,?_⟩,H⟩
 ·have hb:=Dj_one.1 d
  rw[← set_new hb]
  rw[← set_new hb]
  funext z
  simp only[Heap.set]
  split <;> rfl
 ·exact Dj_one.2 (Dj_one.1 d)
 ·simp[hes]
theorem HS.mlen (H:HS g (mpo kf vf b l::Γ) h) {m:O}{dst:Nat}(hm:m.get e=some (.map (some b))) (K:k (eset e dst (some (.int .i64 l.length))) h):(A.ex (some dst) (.mlen m)).wp P k e h:=by
 obtain⟨g',r,rfl,d,⟨es,clock,rfl,hes⟩,H⟩:=H
 have hl:es.size=l.length:=by
  have:=congrArg List.length hes
  simpa using this
 refine⟨b,es,clock,hm,le_add' d _ _ (by simp[Heap.one]),Fgt.keep ?_⟩
 rw[hl]
 exact K
end
theorem keyEq_int:∀a b:Int,keyEq (.one .i) (.int .i64 a) (.int .i64 b)=some (decide (a=b)):=by
 intro a b
 simp[keyEq,eqB]
end Go.Proofs.YtbanccfdojgocaaGreat

namespace Go.Proofs.YtbanccfdojgocaaGreat
open Go
theorem HS.blsO1 {α:Type} [Ty α] {P:Program}{k:Env→Heap→Prop}{e:Env}{g h:Heap}{Γ:List HP}{u:Value}{y:α}(H:HS g (ow u y::Γ) h) {esz:Nat}{zero:List Value}{parts:List (Nat×Nat×O)}{dst:Nat}(hf:fillP e (reps 1 zero) parts=some u.cells.toList)
  (K:∀v' h',HS g (ow v' [y]::Γ) h'→k (eset e dst (some v')) h'):(A.ex (some dst) (.bls esz 1 zero parts)).wp P k e h:=by
 obtain⟨g1,ru,rfl,d2,⟨cs,rfl,ho⟩,H⟩:=H
 have h1:=Ty.len (Ty.own_rep ho)
 rw[rep_cells (Ty.own_rep ho)] at hf
 refine⟨_,hf,fun b el hb=>Fgt.keep ?_⟩
 rw[set_new hb]
 have n1:g1 b=none∧ru b=none:=by simpa[Heap.add] using hb
 rw[add_assoc]
 refine K _ _ ⟨g1,_,rfl,Dj_add.2 ⟨d2,Dj_one.2 n1.1⟩,?_,H⟩
 rw[(Dj_one.2 n1.2).comm]
 refine Own_list.2 (.inr ⟨b,0,1,cs,el,ru,rfl,⟨Nat.le_refl _,by simp⟩,by simp[h1],rfl,n1.2,?_⟩)
 exact⟨ru,Heap.nil,by simp,by simp,by simpa[← h1] using ho,rfl⟩
theorem HS.blsO2 {α:Type} [Ty α] {P:Program}{k:Env→Heap→Prop}{e:Env}{g h:Heap}{Γ:List HP}{u u2:Value}{y y2:α}(H:HS g (ow u y::ow u2 y2::Γ) h) {esz:Nat}{zero:List Value}{parts:List (Nat×Nat×O)}{dst:Nat}(hf:fillP e (reps 2 zero) parts=some (u.cells.toList++u2.cells.toList))
  (K:∀v' h',HS g (ow v' [y,y2]::Γ) h'→k (eset e dst (some v')) h'):(A.ex (some dst) (.bls esz 2 zero parts)).wp P k e h:=by
 obtain⟨g0,ru,rfl,d2,⟨cs,rfl,ho⟩,g1,ru2,rfl,d3,⟨cs2,rfl,ho2⟩,H⟩:=H
 have h1:=Ty.len (Ty.own_rep ho)
 have h2:=Ty.len (Ty.own_rep ho2)
 rw[rep_cells (Ty.own_rep ho),rep_cells (Ty.own_rep ho2)] at hf
 obtain⟨d4,d5⟩:=add_Dj.1 d2
 refine⟨_,hf,fun b el hb=>Fgt.keep ?_⟩
 rw[set_new hb]
 have n1:(g1 b=none∧ru2 b=none)∧ru b=none:=by simpa[Heap.add] using hb
 rw[add_assoc,add_assoc]
 refine K _ _ ⟨g1,_,rfl,Dj_add.2 ⟨d3,Dj_add.2 ⟨d4,Dj_one.2 n1.1.1⟩⟩,?_,H⟩
 rw[← add_assoc,(Dj_one.2 (show (ru2.add ru) b=none by simp[Heap.add,n1])).comm]
 refine Own_list.2 (.inr ⟨b,0,2,cs++cs2,el,ru2.add ru,rfl,⟨Nat.le_refl _,by simp⟩,by simp[h1,h2]; omega,rfl,by simp[Heap.add,n1],?_⟩)
 rw[d5.comm]
 refine⟨ru,ru2,rfl,d5.symm,by simpa[← h1] using ho,ru2,Heap.nil,by simp,by simp,?_,rfl⟩
 have e1:List.drop (Ty.sz α) (cs++cs2)=cs2:=by rw[← h1,List.drop_left]
 simp only[List.drop_zero]
 rw[e1,List.take_of_length_le (by omega)]
 exact ho2
end Go.Proofs.YtbanccfdojgocaaGreat

namespace Go.Proofs.YtbanccfdojgocaaGreat
open Go
section
variable {α:Type}
theorem repL_map {t t':Ty α}{h:Heap}{p:Option Addr}{l:List α}(hs:t.sz=t'.sz) (hr:∀cs x,x∈l→t.rep h cs x→t'.rep h cs x) (H:@repL α t h p l):@repL α t' h p l:=by
 intro i hi
 obtain⟨b,off,vs,h1,h2,h3⟩:=H i hi
 refine⟨b,off,vs,h1,?_,hr _ _ (List.getElem_mem hi) h3⟩
 have h2:hcells h b (off+i*t.sz) t.sz=some vs:=h2
 show hcells h b (off+i*t'.sz) t'.sz=some vs
 rw[← hs]; exact h2
theorem repS_map {t t':Ty α}{h:Heap}{cs:List Value}{l:List α}(hs:t.sz=t'.sz) (hr:∀cs x,x∈l→t.rep h cs x→t'.rep h cs x) (H:@repS α t h cs l):@repS α t' h cs l:=by
 obtain⟨p,cap,h1,h2,h3,h4⟩:=H
 exact⟨p,cap,h1,h2,h3,repL_map hs hr h4⟩
theorem ownL_map {t t':Ty α}(hs:t.sz=t'.sz):∀{l:List α}{cs:List Value}{r:Heap},(∀r cs x,x∈l→t.own r cs x→t'.own r cs x)→@ownL α t l cs r→@ownL α t' l cs r
 | [],_,_,_,H=>H
 | x::l,cs,r,ho,⟨r1,r2,h1,h2,h3,h4⟩=>by
  refine⟨r1,r2,h1,h2,?_,?_⟩
  ·have:=ho r1 _ x (by simp) h3
   show t'.own r1 (cs.take t'.sz) x
   rw[← hs]; exact this
  ·have:=ownL_map hs (fun r cs x hx=>ho r cs x (by simp[hx])) h4
   show @ownL α t' l (cs.drop t'.sz) r2
   rw[← hs]; exact this
theorem ownS_map {t t':Ty α}(hs:t.sz=t'.sz) {l:List α}{cs:List Value}{r:Heap}(ho:∀r cs x,x∈l→t.own r cs x→t'.own r cs x) (H:@ownS α t r cs l):@ownS α t' r cs l:=by
 rcases H with h1 | ⟨b,off,cap,cells,el,r',h1,h2,h3,h4,h5,h6⟩
 ·exact .inl h1
 ·refine .inr ⟨b,off,cap,cells,el,r',h1,h2,?_,h4,h5,ownL_map hs ho h6⟩
  have h3:off+cap*t.sz≤cells.length:=h3
  show off+cap*t'.sz≤cells.length
  rw[← hs]; exact h3
end
theorem exists_max {P:Nat→Nat→Prop}(hu:∀i n,P i n→P i (n+1)):∀m,(∀i,i<m→∃n,P i n)→∃N,∀i,i<m→P i N
 | 0,_=>⟨0,fun i hi=>absurd hi (Nat.not_lt_zero i)⟩
 | m+1,h=>by
  have up:∀i n k,P i n→P i (n+k):=by
   intro i n k hp
   induction k with
   | zero=>exact hp
   | succ k ih=>exact hu _ _ ih
  obtain⟨N,hN⟩:=exists_max hu m fun i hi=>h i (by omega)
  obtain⟨M,hM⟩:=h m (by omega)
  refine⟨N+M,fun i hi=>?_⟩
  by_cases e:i=m
  ·subst e; rw[Nat.add_comm]; exact up _ _ _ hM
  ·exact up _ _ _ (hN i (by omega))
inductive Exq where
 | mk (kind val:Int) (kids:List Exq)
namespace Exq
def kind:Exq→Int | .mk k _ _=>k
def val:Exq→Int | .mk _ v _=>v
def kids:Exq→List Exq | .mk _ _ l=>l
@[simp] theorem kind_mk {k v:Int}{l:List Exq}:(Exq.mk k v l).kind=k:=rfl
@[simp] theorem val_mk {k v:Int}{l:List Exq}:(Exq.mk k v l).val=v:=rfl
@[simp] theorem kids_mk {k v:Int}{l:List Exq}:(Exq.mk k v l).kids=l:=rfl
theorem ext_iff' {a b:Exq}:a=b↔a.kind=b.kind∧a.val=b.val∧a.kids=b.kids:=by
 cases a; cases b; simp
theorem ind {p:Exq→Prop}(h:∀x:Exq,(∀y∈x.kids,p y)→p x):∀x,p x
 | .mk k v l=>h _ fun y hy=>ind h y
termination_by x=>SizeOf.sizeOf x
decreasing_by
 have h1:y∈l:=hy
 have:=List.sizeOf_lt_of_mem h1
 simp only[Exq.mk.sizeOf_spec]
 omega
def tup (x:Exq):Int×Int×List Exq:=(x.kind,x.val,x.kids)
@[reducible] def T0:Ty Exq where
 agg:=true
 sz:=3
 rep:=fun _ _ _=>False
 own:=fun _ _ _=>False
 one:=fun h=>by simp at h
 len:=fun h=>h.elim
 cell:=fun h=>h.elim
 mono:=fun _ h=>h
 own_rep:=fun h=>h.elim
@[reducible] def tyTup (t:Ty Exq):Ty (Int×Int×List Exq):=@instTyProd Int (Int×List Exq) instTyInt (@instTyProd Int (List Exq) instTyInt (@instTyList Exq t))
@[reducible] def T:Nat→Ty Exq
 | 0=>T0
 | n+1=>@Ty.via Exq (Int×Int×List Exq) (tyTup (T n)) tup
theorem T_sz:∀n,(T n).sz=3
 | 0=>rfl
 | _+1=>rfl
theorem tup_rep {t t':Ty Exq}(hs:t.sz=t'.sz) {h:Heap}{cs:List Value}{x:Exq}(hr:∀cs y,y∈x.kids→t.rep h cs y→t'.rep h cs y) (H:(tyTup t).rep h cs x.tup):(tyTup t').rep h cs x.tup:=by
 obtain⟨c1,c2,e1,h1,c3,c4,e2,h2,h3⟩:=H
 exact⟨c1,c2,e1,h1,c3,c4,e2,h2,repS_map hs hr h3⟩
theorem tup_own {t t':Ty Exq}(hs:t.sz=t'.sz) {r:Heap}{cs:List Value}{x:Exq}(hr:∀r cs y,y∈x.kids→t.own r cs y→t'.own r cs y) (H:(tyTup t).own r cs x.tup):(tyTup t').own r cs x.tup:=by
 obtain⟨c1,c2,r1,r2,e1,e2,d1,h1,c3,c4,r3,r4,e3,e4,d2,h2,h3⟩:=H
 exact⟨c1,c2,r1,r2,e1,e2,d1,h1,c3,c4,r3,r4,e3,e4,d2,h2,ownS_map hs hr h3⟩
theorem rep_up:∀(n:Nat) {h:Heap}{cs:List Value}{x:Exq},(T n).rep h cs x→(T (n+1)).rep h cs x
 | 0,_,_,_,H=>H.elim
 | n+1,h,cs,x,H=>tup_rep (t:=T n) (t':=T (n+1)) (by rw[T_sz,T_sz]) (fun _ _ _=>rep_up n) H
theorem own_up:∀(n:Nat) {r:Heap}{cs:List Value}{x:Exq},(T n).own r cs x→(T (n+1)).own r cs x
 | 0,_,_,_,H=>H.elim
 | n+1,h,cs,x,H=>tup_own (t:=T n) (t':=T (n+1)) (by rw[T_sz,T_sz]) (fun _ _ _ _=>own_up n) H
theorem own_le {n m:Nat}(hle:n≤m) {r:Heap}{cs:List Value}{x:Exq}(H:(T n).own r cs x):(T m).own r cs x:=by
 obtain⟨k,rfl⟩:=Nat.exists_eq_add_of_le hle
 induction k with
 | zero=>exact H
 | succ k ih=>exact own_up _ (ih (by omega))
end Exq
instance instTyExq:Ty Exq where
 agg:=true
 sz:=3
 rep:=fun h cs x=>∃n,(Exq.T n).rep h cs x
 own:=fun r cs x=>∃n,(Exq.T n).own r cs x
 one:=fun h=>by simp at h
 len:=fun ⟨n,h⟩=>((Exq.T n).len h).trans (Exq.T_sz n)
 cell:=fun ⟨n,h⟩=>(Exq.T n).cell h
 mono:=fun hl ⟨n,h⟩=>⟨n,(Exq.T n).mono hl h⟩
 own_rep:=fun ⟨n,h⟩=>⟨n,(Exq.T n).own_rep h⟩
namespace Exq
theorem rep_iff {h:Heap}{cs:List Value}{x:Exq}:Ty.rep h cs x↔Ty.rep h cs x.tup:=by
 constructor
 ·rintro⟨n,H⟩
  cases n with
  | zero=>exact H.elim
  | succ n=>exact tup_rep (t:=T n) (t':=instTyExq) (T_sz n) (fun _ _ _ h=>⟨n,h⟩) H
 ·rintro⟨c1,c2,e1,h1,c3,c4,e2,h2,p,cap,e3,h3,h4,hl⟩
  have hl:∀i,i<x.kids.length→∃n,∃(hi:i<x.kids.length),∃b off vs,p=some ⟨b,off,none⟩∧hcells h b (off+i*3) 3=some vs∧(T n).rep h vs x.kids[i]:=by
   intro i hi
   obtain⟨b,off,vs,g1,g2,n,g3⟩:=hl i hi
   exact⟨n,hi,b,off,vs,g1,g2,g3⟩
  obtain⟨N,hN⟩:=exists_max (P:=fun i n=>∃(hi:i<x.kids.length),∃b off vs,p=some ⟨b,off,none⟩∧hcells h b (off+i*3) 3=some vs∧(T n).rep h vs x.kids[i]) (fun i n ⟨hi,b,off,vs,g1,g2,g3⟩=>⟨hi,b,off,vs,g1,g2,rep_up n g3⟩) _ hl
  refine⟨N+1,c1,c2,e1,h1,c3,c4,e2,h2,p,cap,e3,h3,h4,fun i hi=>?_⟩
  obtain⟨_,b,off,vs,g1,g2,g3⟩:=hN i hi
  refine⟨b,off,vs,g1,?_,g3⟩
  show hcells h b (off+i*(T N).sz) (T N).sz=some vs
  rw[T_sz]; exact g2
theorem ownL_max:∀{l:List Exq}{cs:List Value}{r:Heap},ownL l cs r→∃N,@ownL Exq (T N) l cs r
 | [],_,_,H=>⟨0,H⟩
 | x::l,cs,r,⟨r1,r2,h1,h2,⟨n,h3⟩,h4⟩=>by
  obtain⟨N,h5⟩:=ownL_max h4
  refine⟨n+N,r1,r2,h1,h2,?_,?_⟩
  ·show (T (n+N)).own r1 (cs.take (T (n+N)).sz) x
   rw[T_sz]; exact own_le (by omega) h3
  ·show @ownL Exq (T (n+N)) l (cs.drop (T (n+N)).sz) r2
   rw[T_sz]; exact ownL_map (t:=T N) (t':=T (n+N)) (by rw[T_sz,T_sz]) (fun _ _ _ _=>own_le (by omega)) h5
theorem own_iff {r:Heap}{cs:List Value}{x:Exq}:Ty.own r cs x↔Ty.own r cs x.tup:=by
 constructor
 ·rintro⟨n,H⟩
  cases n with
  | zero=>exact H.elim
  | succ n=>exact tup_own (t:=T n) (t':=instTyExq) (T_sz n) (fun _ _ _ _ h=>⟨n,h⟩) H
 ·rintro⟨c1,c2,r1,r2,e1,e2,d1,h1,c3,c4,r3,r4,e3,e4,d2,h2,h3⟩
  rcases h3 with h3 | ⟨b,off,cap,cells,el,r',g1,g2,g3,g4,g5,g6⟩
  ·exact⟨1,c1,c2,r1,r2,e1,e2,d1,h1,c3,c4,r3,r4,e3,e4,d2,h2,.inl h3⟩
  ·obtain⟨N,h7⟩:=ownL_max g6
   refine⟨N+1,c1,c2,r1,r2,e1,e2,d1,h1,c3,c4,r3,r4,e3,e4,d2,h2,.inr ⟨b,off,cap,cells,el,r',g1,g2,?_,g4,g5,h7⟩⟩
   show off+cap*(T N).sz≤cells.length
   rw[T_sz]; exact g3
end Exq
def I64 (n:Int):Prop:=-9223372036854775808≤n∧n<9223372036854775808
theorem I64.lo {n:Int}(h:I64 n):-9223372036854775808≤n:=h.1
theorem I64.hi {n:Int}(h:I64 n):n<9223372036854775808:=h.2
section
variable {g h r:Heap}{Γ:List HP}{v:Value}{cs:List Value}
theorem repExq {x:Exq}:Ty.rep h cs x↔∃w,cs=[.int .i64 x.kind,.int .i64 x.val,w]∧I64 x.kind∧I64 x.val∧Rep h w x.kids:=by
 rw[Exq.rep_iff]
 constructor
 ·rintro⟨c1,c2,rfl,⟨rfl,h1⟩,c3,c4,rfl,⟨rfl,h2⟩,h3⟩
  obtain⟨w,rfl,h4⟩:=(rep1 (α:=List Exq) rfl).1 h3
  exact⟨w,rfl,h1,h2,h4⟩
 ·rintro⟨w,rfl,h1,h2,h3⟩
  exact⟨[_],[_,_],rfl,⟨rfl,h1⟩,[_],[_],rfl,⟨rfl,h2⟩,(rep1 (α:=List Exq) rfl).2 ⟨w,rfl,h3⟩⟩
theorem ownExq {x:Exq}:Ty.own r cs x↔∃w,cs=[.int .i64 x.kind,.int .i64 x.val,w]∧I64 x.kind∧I64 x.val∧Own r w x.kids:=by
 rw[Exq.own_iff]
 constructor
 ·rintro⟨c1,c2,r1,r2,rfl,rfl,d1,⟨rfl,rfl,h1⟩,c3,c4,r3,r4,rfl,rfl,d2,⟨rfl,rfl,h2⟩,h3⟩
  obtain⟨w,rfl,h4⟩:=(own1 (α:=List Exq) rfl).1 h3
  exact⟨w,rfl,h1,h2,by rw[nil_add,nil_add]; exact h4⟩
 ·rintro⟨w,rfl,h1,h2,h3⟩
  exact⟨[_],[_,_],Heap.nil,r,rfl,by simp,by simp,⟨rfl,rfl,h1⟩,[_],[_],Heap.nil,r,rfl,by simp,by simp,⟨rfl,rfl,h2⟩,(own1 (α:=List Exq) rfl).2 ⟨w,rfl,h3⟩⟩
theorem Rep_Exq {x:Exq}:Rep h v x↔∃w,v=.agg #[.int .i64 x.kind,.int .i64 x.val,w]∧I64 x.kind∧I64 x.val∧Rep h w x.kids:=by
 constructor
 ·rintro⟨cs,rfl,H⟩
  obtain⟨w,rfl,h1⟩:=repExq.1 H
  exact⟨w,rfl,h1⟩
 ·rintro⟨w,rfl,h1⟩
  exact⟨_,rfl,repExq.2 ⟨w,rfl,h1⟩⟩
theorem HS.unExq {x:Exq}(H:HS g (ow v x::Γ) h):∃w,v=.agg #[.int .i64 x.kind,.int .i64 x.val,w]∧I64 x.kind∧I64 x.val∧HS g (ow w x.kids::Γ) h:=by
 obtain⟨g',r,rfl,d,⟨cs,rfl,O⟩,H⟩:=H
 obtain⟨w,rfl,h1,h2,h3⟩:=ownExq.1 O
 exact⟨w,rfl,h1,h2,g',r,rfl,d,h3,H⟩
theorem HS.mkExq {x:Exq}{w:Value}(H:HS g (ow w x.kids::Γ) h) (h1:I64 x.kind) (h2:I64 x.val):HS g (ow (.agg #[.int .i64 x.kind,.int .i64 x.val,w]) x::Γ) h:=
 H.imp fun _ O=>⟨_,rfl,ownExq.2 ⟨w,rfl,h1,h2,O⟩⟩
theorem HS.mkExq' {kd vl:Int}{l:List Exq}{w:Value}(H:HS g (ow w l::Γ) h) (h1:I64 kd) (h2:I64 vl):HS g (ow (.agg #[.int .i64 kd,.int .i64 vl,w]) (Exq.mk kd vl l)::Γ) h:=
 HS.mkExq (x:=Exq.mk kd vl l) H h1 h2
theorem Rep.aExq {x:Exq}(hr:Rep h v x):pgetV (some v) 0 (some 3)=some v∧v.cells.size=3∧allOne v.cells.toList=true∧Value.agg v.cells=v:=hr.A rfl rfl
end
noncomputable instance:DecidableEq Exq:=fun _ _=>Classical.propDecidable _
structure Ed where
 frm:Int
 to:Int
 guard:Exq
 var:Int
 value:Exq
 sync:Int
instance instTyEd:Ty Ed:=Ty.via fun (e:Ed)=>(e.frm,e.to,e.guard,e.var,e.value,e.sync)
noncomputable instance:DecidableEq Ed:=fun _ _=>Classical.propDecidable _
structure Pr where
 locs:Int
 edges:List Ed
instance instTyPr:Ty Pr:=Ty.via fun (p:Pr)=>(p.locs,p.edges)
noncomputable instance:DecidableEq Pr:=fun _ _=>Classical.propDecidable _
structure Sy where
 init:List Int
 procs:List Pr
instance instTySy:Ty Sy:=Ty.via fun (s:Sy)=>(s.init,s.procs)
noncomputable instance:DecidableEq Sy:=fun _ _=>Classical.propDecidable _
theorem Ed.ext_iff' {a b:Ed}:a=b↔a.frm=b.frm∧a.to=b.to∧a.guard=b.guard∧a.var=b.var∧a.value=b.value∧a.sync=b.sync:=by
 cases a; cases b; simp
theorem Pr.ext_iff' {a b:Pr}:a=b↔a.locs=b.locs∧a.edges=b.edges:=by
 cases a; cases b; simp
theorem Sy.ext_iff' {a b:Sy}:a=b↔a.init=b.init∧a.procs=b.procs:=by
 cases a; cases b; simp
def Ed.cs (e:Ed) (w1 w2:Value):List Value:=[.int .i64 e.frm,.int .i64 e.to,.int .i64 e.guard.kind,.int .i64 e.guard.val,w1,.int .i64 e.var,.int .i64 e.value.kind,.int .i64 e.value.val,w2,.int .i64 e.sync]
structure Ed.ok (e:Ed):Prop where
 frm:I64 e.frm
 to:I64 e.to
 gk:I64 e.guard.kind
 gv:I64 e.guard.val
 var:I64 e.var
 vk:I64 e.value.kind
 vv:I64 e.value.val
 sync:I64 e.sync
section
variable {g h r:Heap}{Γ:List HP}{v:Value}{cs:List Value}
end
end Go.Proofs.YtbanccfdojgocaaGreat

namespace Go.Proofs.YtbanccfdojgocaaGreat
open Go
section
variable {α:Type} [Ty α] {P:Program}{k:Env→Heap→Prop}{e:Env}{g h:Heap}{Γ:List HP}{v w:Value}{l:List α}{i:Nat}{cs:List Value}
theorem hld_parts {n:Nat}(hv:hload h (some (elp n v i)) (some n)=some (.agg cs.toArray)):(∀fo,faV fo (elp n v i)=some (elpo n v i fo))∧(∀a b,faV b (elpo n v i a)=some (elpo n v i (a+b))) ∧
  (∀fo,fo<n→hload h (some (elpo n v i fo)) none=cs[fo]?)∧(∀fo m,fo+m≤n→hload h (some (elpo n v i fo)) (some m)=some (.agg ((cs.drop fo).take m).toArray)):=by
 unfold elp at hv
 split at hv
 case h_2=>simp[undef,hload] at hv
 case h_1 p c d=>
  have hz:∃b off,p.add (i*n)=⟨b,off,none⟩:=by
   generalize hq:p.add (i*n)=q at hv
   obtain⟨b,off,sp⟩:=q
   cases sp with
   | none=>exact⟨b,off,rfl⟩
   | some s=>simp[hload] at hv
  obtain⟨b,off,hz⟩:=hz
  rw[hz] at hv
  simp only[hload,Option.map_eq_some_iff] at hv
  obtain⟨l,h1,h2⟩:=hv
  have h2:l=cs:=by simpa using h2
  subst h2
  have h3:=hcells_get h1
  have hsub:∀m fo,fo+m≤n→hcells h b (off+fo) m=some ((l.drop fo).take m):=by
   intro m
   induction m with
   | zero=>intro fo _; simp[hcells]
   | succ m ih=>
    intro fo hf
    have h4:=ih (fo+1) (by omega)
    have h5:=h3.2 fo (l[fo]'(by rw[h3.1]; omega)) (List.getElem?_eq_getElem _)
    simp only[hcells,h5]
    rw[show off+fo+1=off+(fo+1) by omega,h4]
    simp only[Option.some.injEq]
    rw[List.drop_eq_getElem_cons (by rw[h3.1]; omega:fo<l.length),List.take_succ_cons]
  refine⟨fun fo=>?_,fun a c=>?_,fun fo hf=>?_,fun fo m hf=>?_⟩
  ·simp only[elp,elpo,hz,add_none,faV]
  ·simp only[elpo,hz,add_none,faV]
   simp[Nat.add_assoc]
  ·have h5:=h3.2 fo (l[fo]'(by rw[h3.1]; omega)) (List.getElem?_eq_getElem _)
   simp only[elpo,hz,add_none,hload,h5]
   exact (List.getElem?_eq_getElem _).symm
  ·simp only[elpo,hz,add_none,hload,hsub m fo hf]
   rfl
end
inductive Mix (α:Type) where
 | raw (cs:List Value)
 | new (x:α)
section
variable {α:Type} [Ty α]
def Mix.rep (h:Heap) (cs:List Value):Mix α→Prop
 | .raw c=>cs=c∧c.length=Ty.sz α∧∀v∈c,v.oneCell'=true
 | .new x=>Ty.rep h cs x
def Mix.own (r:Heap) (cs:List Value):Mix α→Prop
 | .raw c=>r=Heap.nil∧cs=c∧c.length=Ty.sz α∧∀v∈c,v.oneCell'=true
 | .new x=>Ty.own r cs x
instance instTyMix:Ty (Mix α) where
 agg:=Ty.agg α
 sz:=Ty.sz α
 rep:=Mix.rep
 own:=Mix.own
 one:=Ty.one
 len:=by
  intro h cs x hx
  cases x with
  | raw c=>obtain⟨rfl,h1,_⟩:=hx; exact h1
  | new x=>exact Ty.len (x:=x) hx
 cell:=by
  intro h cs x hx
  cases x with
  | raw c=>obtain⟨rfl,_,h1⟩:=hx; exact h1
  | new x=>exact Ty.cell (x:=x) hx
 mono:=by
  intro h h' cs x hl hx
  cases x with
  | raw c=>exact hx
  | new x=>exact Ty.mono (x:=x) hl hx
 own_rep:=by
  intro r cs x hx
  cases x with
  | raw c=>exact hx.2
  | new x=>exact Ty.own_rep (x:=x) hx
theorem ownL_new:∀{l:List α}{cs:List Value}{r:Heap},ownL (l.map Mix.new) cs r→ownL l cs r
 | [],_,_,H=>H
 | x::l,cs,r,⟨r1,r2,h1,h2,h3,h4⟩=>⟨r1,r2,h1,h2,h3,ownL_new h4⟩
theorem HS.mixed {g h:Heap}{Γ:List HP}{v:Value}{l:List α}(H:HS g (ow v (l.map Mix.new)::Γ) h):HS g (ow v l::Γ) h:=by
 refine H.imp fun r O=>?_
 have O:Own r v (l.map (Mix.new (α:=α))):=O
 rcases Own_list.1 O with ⟨p,rfl,h1,h2,h3⟩ | ⟨b,off,cap,cells,el,r',rfl,h1,h2,h3,h4,h5⟩
 ·exact Own_list.2 (.inl ⟨p,rfl,by simpa using h1,h2,h3⟩)
 ·exact Own_list.2 (.inr ⟨b,off,cap,cells,el,r',by simp,by simpa using h1,h2,h3,h4,ownL_new h5⟩)
theorem HS.newO {g h:Heap}{Γ:List HP}{v:Value}{x:α}(H:HS g (ow v x::Γ) h):HS g (ow v (Mix.new x)::Γ) h:=H.imp fun _ O=>O
structure Raws (h:Heap) (l:List α) (M:List (Mix α)):Prop where
 len:M.length=l.length
 at':∀(i:Nat) (hi:i<l.length),∃c,M[i]? = some (.raw c)∧Ty.rep h c l[i]
theorem Rep.srcR {h:Heap}{v:Value}{l:List α}(hr:Rep h v l):∃(M:List (Mix α)) (cs:List Value),Raws h l M∧srcV h (Ty.sz α) (some v)=some (l.length,cs)∧cs.length=l.length*Ty.sz α∧ownL M cs Heap.nil:=by
 obtain⟨p,cap,rfl,h1,h2,h3⟩:=Rep_list.1 hr
 cases hl:l with
 | nil=>subst hl; exact⟨[],[],⟨rfl,fun i hi=>absurd hi (Nat.not_lt_zero i)⟩,rfl,by simp,rfl⟩
 | cons y l'=>
  rw[← hl]
  obtain⟨b,off,vs,rfl,_⟩:=h3 0 (by rw[hl]; simp)
  have key:∀n,n≤l.length→∃(M:List (Mix α)) (cs:List Value),M.length=n∧(∀(i:Nat) (hi:i<l.length),i<n→∃c,M[i]? = some (.raw c)∧Ty.rep h c l[i])∧hcells h b off (n*Ty.sz α)=some cs∧cs.length=n*Ty.sz α∧ownL M cs Heap.nil:=by
   intro n
   induction n with
   | zero=>intro _; exact⟨[],[],rfl,fun i _ hi=>absurd hi (Nat.not_lt_zero i),by simp[hcells],by simp,rfl⟩
   | succ n ih=>
    intro hn
    obtain⟨M,cs,g1,g2,g3,g4,g5⟩:=ih (by omega)
    obtain⟨b',off',vs,e1,e2,e3⟩:=h3 n (by omega)
    simp only[Option.some.injEq,Addr.mk.injEq] at e1
    obtain⟨rfl,rfl,_⟩:=e1
    have hlen:=Ty.len e3
    refine⟨M++[.raw vs],cs++vs,by simp[g1],?_,?_,?_,?_⟩
    ·intro i hi hin
     by_cases hh:i<n
     ·obtain⟨c,f1,f2⟩:=g2 i hi hh
      exact⟨c,by rw[List.getElem?_append_left (by omega)]; exact f1,f2⟩
     ·obtain rfl:i=n:=by omega
      exact⟨vs,by rw[← g1,List.getElem?_append_right (Nat.le_refl _)]; simp,e3⟩
    ·rw[show (n+1)*Ty.sz α=n*Ty.sz α+Ty.sz α by rw[Nat.add_mul]; omega]
     exact hcells_add g3 e2
    ·rw[List.length_append,g4,hlen,Nat.add_mul]; omega
    ·have:=ownL_append (l2:=[Mix.raw vs]) (cs2:=vs) (r2:=Heap.nil) g5 (by rw[g4,g1]; rfl) ⟨Heap.nil,Heap.nil,by simp,by simp,⟨rfl,?_,hlen,Ty.cell e3⟩,rfl⟩ (by simp)
     ·simpa using this
     ·show List.take (Ty.sz α) vs=vs
      rw[List.take_of_length_le (by omega)]
  obtain⟨M,cs,g1,g2,g3,g4,g5⟩:=key l.length (Nat.le_refl _)
  exact⟨M,cs,⟨g1,fun i hi=>g2 i hi hi⟩,srcV_slice g3,g4,g5⟩
theorem HS.appPLr {P:Program}{k:Env→Heap→Prop}{e:Env}{g h:Heap}{Γ:List HP}{u:Value}{l2:List α}(H:HS g Γ h) {bytes esz:Nat}{zero:List Value}{j:Nat}{x:O}{dst:Nat}{c0:Array Value}(hp:eget e j=some (.agg c0)) (hx:x.get e=some u) (hr:Rep h u l2) (hsz:esz=Ty.sz α) (hz:zero.length=Ty.sz α) (hb:l2.length*bytes≤140737488355328)
  (K:∀v' h' (M:List (Mix α)),Raws h l2 M→HS g (ow v' M::Γ) h'→k (eset e dst (some v')) h'):(A.ex (some dst) (.app bytes esz zero (.p 0 j) (.o x))).wp P k e h:=by
 subst hsz
 obtain⟨M,cs,hM,h1,h2,h3⟩:=hr.srcR
 have hl:=hM.len
 refine a_appP (α:=Mix α) (rs:=Heap.nil) (l2:=M) hp ?_ (by rw[hl]; exact h2) h3 Dj_nil (by simp) hz (by rw[hl]; exact hb) (by have:=hr.lt; omega) fun v' r' d' O'=>K _ _ M hM ⟨h,r',rfl,d',O',H⟩
 simp only[AO.src,hx,hl]
 exact h1
end
structure Mixed {α:Type} [Ty α] (h:Heap) (l:List α) (f:α→α) (M:List (Mix α)) (i:Nat):Prop where
 len:M.length=l.length
 done:M.take i=((l.map f).take i).map Mix.new
 rest:∀(j:Nat) (hj:j<l.length),i≤j→∃c,M[j]? = some (.raw c)∧Ty.rep h c l[j]
section
variable {α:Type} [Ty α] {h:Heap}{l:List α}{f:α→α}{M:List (Mix α)}{i:Nat}
theorem Mixed.zero (R:Raws h l M):Mixed h l f M 0:=⟨R.len,rfl,fun j hj _=>R.at' j hj⟩
theorem Mixed.le {h':Heap}(H:Mixed h l f M i) (hl:h.le h'):Mixed h' l f M i:=⟨H.len,H.done,fun j hj hij=>by
 obtain⟨c,h1,h2⟩:=H.rest j hj hij
 exact⟨c,h1,Ty.mono hl h2⟩⟩
theorem Mixed.get (H:Mixed h l f M i) (hi:i<l.length):∃c,M[i]'(by rw[H.len]; exact hi)=.raw c∧Ty.rep h c l[i]:=by
 obtain⟨c,h1,h2⟩:=H.rest i hi (Nat.le_refl i)
 refine⟨c,?_,h2⟩
 rw[List.getElem?_eq_getElem (by rw[H.len]; exact hi)] at h1
 exact Option.some.inj h1
theorem Mixed.step (H:Mixed h l f M i) (hi:i<l.length):Mixed h l f (M.set i (.new (f l[i]))) (i+1):=by
 refine⟨by simp[H.len],?_,fun j hj hij=>?_⟩
 ·have h1:M.take i=(l.map fun x=>Mix.new (f x)).take i:=by rw[H.done,List.map_take,List.map_map]; rfl
  have:=take_set_succ (x:=l.map fun x=>Mix.new (f x)) h1 (by simpa using hi) (by simp[H.len])
  rw[List.getElem_map] at this
  rw[this,List.map_take,List.map_map]
  rfl
 ·rw[List.getElem?_set_ne (by omega)]
  exact H.rest j hj (by omega)
theorem Mixed.all (H:Mixed h l f M i) (hi:l.length≤i):M=(l.map f).map Mix.new:=by
 have:=H.done
 rw[List.take_of_length_le (by rw[H.len]; exact hi),List.take_of_length_le (by simpa using hi)] at this
 exact this
end
mutual
def Exq.size:Exq→Nat
 | .mk _ _ l=>Exq.sizes l
def Exq.sizes:List Exq→Nat
 | []=>0
 | x::l=>1+x.size+Exq.sizes l
end
instance instSzExq:Sz Exq:=⟨Exq.size⟩
theorem Exq.sizes_eq:∀l,Exq.sizes l=Sz.sz l
 | []=>by simp[Exq.sizes,sz_list,szL]
 | x::l=>by
  have:=Exq.sizes_eq l
  rw[sz_list] at this ⊢
  simp only[Exq.sizes,szL,List.length_cons,this]
  show 1+Sz.sz x+_=_
  omega
theorem sz_Exq (x:Exq):Sz.sz x=Sz.sz x.kids:=by
 cases x with
 | mk k v l=>exact Exq.sizes_eq l
instance instSzEd:Sz Ed:=⟨fun e=>Sz.sz e.guard+Sz.sz e.value⟩
instance instSzPr:Sz Pr:=⟨fun p=>Sz.sz p.edges⟩
instance instSzSy:Sz Sy:=⟨fun s=>Sz.sz s.init+Sz.sz s.procs⟩
mutual
def Exq.cnt:Exq→Nat
 | .mk _ _ l=>2+Exq.cnts l
def Exq.cnts:List Exq→Nat
 | []=>0
 | x::l=>x.cnt+Exq.cnts l
end
mutual
def Exq.wr:Int→Exq→Exq
 | k,.mk _ _ l=>.mk k (k+1) (Exq.wrs (k+2) l)
def Exq.wrs:Int→List Exq→List Exq
 | _,[]=>[]
 | k,x::l=>x.wr k::Exq.wrs (k+x.cnt) l
end
mutual
theorem Exq.cnt_wr:∀(k:Int) (x:Exq),(Exq.wr k x).cnt=x.cnt
 | k,.mk _ _ l=>by simp only[Exq.wr,Exq.cnt,Exq.cnts_wrs (k+2) l]
theorem Exq.cnts_wrs:∀(k:Int) (l:List Exq),Exq.cnts (Exq.wrs k l)=Exq.cnts l
 | _,[]=>rfl
 | k,x::l=>by simp only[Exq.wrs,Exq.cnts,Exq.cnt_wr k x,Exq.cnts_wrs (k+x.cnt) l]
end
mutual
theorem Exq.wr_wr:∀(k j:Int) (x:Exq),Exq.wr k (Exq.wr j x)=Exq.wr k x
 | k,j,.mk _ _ l=>by simp only[Exq.wr,Exq.wrs_wrs (k+2) (j+2) l]
theorem Exq.wrs_wrs:∀(k j:Int) (l:List Exq),Exq.wrs k (Exq.wrs j l)=Exq.wrs k l
 | _,_,[]=>rfl
 | k,j,x::l=>by simp only[Exq.wrs,Exq.cnt_wr j x,Exq.wr_wr k j x,Exq.wrs_wrs (k+x.cnt) (j+x.cnt) l]
end
instance instMkExq:Mk Exq:=⟨Exq.cnt,Exq.wr,Exq.cnt_wr,Exq.wr_wr⟩
instance instMkEd:Mk Ed:=⟨fun e=>Mk.cnt e.frm+Mk.cnt e.to+Mk.cnt e.guard+Mk.cnt e.var+Mk.cnt e.value+Mk.cnt e.sync,
 fun k e=>⟨Mk.wr k e.frm,Mk.wr (k+Mk.cnt e.frm) e.to,Mk.wr (k+Mk.cnt e.frm+Mk.cnt e.to) e.guard,Mk.wr (k+Mk.cnt e.frm+Mk.cnt e.to+Mk.cnt e.guard) e.var,
  Mk.wr (k+Mk.cnt e.frm+Mk.cnt e.to+Mk.cnt e.guard+Mk.cnt e.var) e.value,Mk.wr (k+Mk.cnt e.frm+Mk.cnt e.to+Mk.cnt e.guard+Mk.cnt e.var+Mk.cnt e.value) e.sync⟩,
 fun k a=>by simp[Mk.cnt_wr],fun k j a=>by simp[Mk.cnt_wr,Mk.wr_wr]⟩
instance instMkPr:Mk Pr:=⟨fun p=>Mk.cnt p.locs+Mk.cnt p.edges,fun k p=>⟨Mk.wr k p.locs,Mk.wr (k+Mk.cnt p.locs) p.edges⟩,fun k a=>by simp[Mk.cnt_wr],fun k j a=>by simp[Mk.cnt_wr,Mk.wr_wr]⟩
instance instMkSy:Mk Sy:=⟨fun p=>Mk.cnt p.init+Mk.cnt p.procs,fun k p=>⟨Mk.wr k p.init,Mk.wr (k+Mk.cnt p.init) p.procs⟩,fun k a=>by simp[Mk.cnt_wr],fun k j a=>by simp[Mk.cnt_wr,Mk.wr_wr]⟩
end Go.Proofs.YtbanccfdojgocaaGreat

namespace Go.Proofs.YtbanccfdojgocaaGreat
open Go
theorem foldl_tk {α β:Type}{f:β→α→β}{b:β}{l:List α}{i:Nat}(hi:i<l.length):(l.take (i+1)).foldl f b=f ((l.take i).foldl f b) l[i]:=by
 rw[List.take_add_one,List.getElem?_eq_getElem hi,List.foldl_append]; rfl
def VOk (vs:List Int):Prop:=vs.length=3∧∀x∈vs,0≤x∧x≤3
theorem VOk.len {vs:List Int}(h:VOk vs):vs.length=3:=h.1
theorem VOk.at {vs:List Int}(h:VOk vs) {i:Nat}(hi:i<vs.length):0≤vs[i]∧vs[i]≤3:=h.2 _ (List.getElem_mem hi)
noncomputable instance {vs:List Int}:Decidable (VOk vs):=Classical.propDecidable _
namespace Exq
def arity (k:Int):Int:=if k=1∨k=2 then 0 else if k=3 then 1 else if 4≤k∧k≤9 then 2 else -1
def most (k:Int):Int:=if k=1 then 3 else if k=2 then 2 else 0
structure Nd (x:Exq):Prop where
 ar:(x.kids.length:Int)=arity x.kind
 lo:0≤x.val
 hi:x.val≤most x.kind
def Shp:Nat→Exq→Prop
 | 0,_=>False
 | n+1,x=>x.Nd∧∀y∈x.kids,Shp n y
mutual
def nod:Exq→Nat
 | .mk _ _ l=>1+nods l
def nods:List Exq→Nat
 | []=>0
 | x::l=>x.nod+nods l
end
theorem nod_eq (x:Exq):x.nod=1+nods x.kids:=by cases x; rfl
theorem nods_take:∀{l:List Exq}{i:Nat}(hi:i<l.length),nods (l.take (i+1))=nods (l.take i)+l[i].nod
 | x::l,0,_=>by simp[nods]
 | x::l,i+1,hi=>by
  have:=nods_take (l:=l) (i:=i) (by simpa using hi)
  simp only[List.take_succ_cons,nods,List.getElem_cons_succ,this]; omega
theorem nods_le:∀(l:List Exq) (i:Nat),nods (l.take i)≤nods l
 | [],i=>by simp
 | x::l,0=>by simp[nods]
 | x::l,i+1=>by
  simp only[List.take_succ_cons,nods]
  have:=nods_le l i
  omega
def Ok (x:Exq):Prop:=x.Shp 6∧x.nod≤15
noncomputable instance {x:Exq}:Decidable x.Ok:=Classical.propDecidable _
def zero:Exq:=.mk 0 0 []
theorem Nd.kind {x:Exq}(h:x.Nd):1≤x.kind∧x.kind≤9:=by
 have:=h.ar
 unfold arity at this
 split at this <;> (try split at this) <;> (try split at this) <;> omega
theorem Shp.nd {n:Nat}{x:Exq}(h:x.Shp n):x.Nd:=by
 cases n with
 | zero=>exact h.elim
 | succ n=>exact h.1
theorem Shp.kid {n:Nat}{x:Exq}(h:x.Shp (n+1)) {i:Nat}(hi:i<x.kids.length):x.kids[i].Shp n:=h.2 _ (List.getElem_mem hi)
theorem Shp.bnd:∀{n:Nat}{x:Exq},x.Shp n→x.nod<2 ^ n
 | 0,_,h=>h.elim
 | n+1,x,h=>by
  have h1:=h.1.ar
  have h2:x.kids.length≤2:=by
   unfold arity at h1
   split at h1 <;> (try split at h1) <;> (try split at h1) <;> omega
  have h3:nods x.kids+x.kids.length≤x.kids.length*2 ^ n:=by
   have key:∀l:List Exq,(∀y∈l,Shp n y)→nods l+l.length≤l.length*2 ^ n:=by
    intro l
    induction l with
    | nil=>intro _; simp[nods]
    | cons y l ih=>
     intro hl
     have g1:=Shp.bnd (hl y (by simp))
     have g2:=ih fun z hz=>hl z (by simp[hz])
     simp only[nods,List.length_cons,Nat.add_mul]
     omega
   exact key _ h.2
  have h4:x.kids.length*2 ^ n≤2*2 ^ n:=Nat.mul_le_mul_right _ h2
  have h5:0<2 ^ n:=Nat.pow_pos (by decide)
  rw[nod_eq,Nat.pow_succ]
  by_cases h6:x.kids.length=0
  ·have:x.kids=[]:=List.length_eq_zero_iff.1 h6
   rw[this]; simp only[nods]; omega
  ·rcases (show x.kids.length=1∨x.kids.length=2 by omega) with h7 | h7 <;> rw[h7] at h3 h4 <;> omega
def tr (p:Prop) [Decidable p]:Int:=if p then 1 else 0
def evk (vs:List Int) (k v a b:Int):Int:=
 if k=1 then v else if k=2 then vs.getD v.toNat 0 else if k=3 then tr (a=0) else if k=4 then tr (a≠0∧b≠0) else if k=5 then tr (a≠0∨b≠0)
 else if k=6 then tr (a=b) else if k=7 then tr (a<b) else if k=8 then (a+b).tmod 4 else (a-b+4).tmod 4
mutual
def ev (vs:List Int):Exq→Int
 | .mk k v l=>evk vs k v ((evs vs l).getD 0 0) ((evs vs l).getD 1 0)
def evs (vs:List Int):List Exq→List Int
 | []=>[]
 | x::l=>x.ev vs::evs vs l
end
def kev (x:Exq) (vs:List Int) (j:Nat):Int:=(x.kids.map (ev vs)).getD j 0
mutual
def mkv:Exq→List Bool→List Bool
 | .mk k v l,M=>mkvs l (if k=2 then M.set v.toNat true else M)
def mkvs:List Exq→List Bool→List Bool
 | [],M=>M
 | x::l,M=>mkvs l (x.mkv M)
end
end Exq
structure Ed.Ok (e:Ed) (n:Int):Prop where
 n1:1≤n
 n4:n≤4
 f0:0≤e.frm
 f1:e.frm<n
 t0:0≤e.to
 t1:e.to<n
 gd:e.guard.Ok
 v0:-1≤e.var
 v1:e.var≤2
 vl:(0≤e.var∧e.value.Ok)∨(e.var<0∧e.value=Exq.zero)
 s0:-2≤e.sync
 s1:e.sync≤2
noncomputable instance {e:Ed}{n:Int}:Decidable (e.Ok n):=Classical.propDecidable _
structure Pr.Ok (p:Pr):Prop where
 n1:1≤p.locs
 n4:p.locs≤4
 el:p.edges.length≤6
 ed:∀e∈p.edges,e.Ok p.locs
noncomputable instance {p:Pr}:Decidable p.Ok:=Classical.propDecidable _
structure Sy.Ok (s:Sy):Prop where
 vs:VOk s.init
 p1:1≤s.procs.length
 p3:s.procs.length≤3
 pr:∀p∈s.procs,p.Ok
noncomputable instance {s:Sy}:Decidable s.Ok:=Classical.propDecidable _
theorem Sy.Ok.at {s:Sy}(h:s.Ok) {i:Nat}(hi:i<s.procs.length):s.procs[i].Ok:=h.pr _ (List.getElem_mem hi)
theorem Pr.Ok.at {p:Pr}(h:p.Ok) {i:Nat}(hi:i<p.edges.length):p.edges[i].Ok p.locs:=h.ed _ (List.getElem_mem hi)
structure LOk (l:List Exq):Prop where
 len:l.length=3
 ok:∀x∈l,x.Ok
noncomputable instance {l:List Exq}:Decidable (LOk l):=Classical.propDecidable _
def relL (labels:List Exq) (M:List Bool):List Bool:=labels.foldl (fun M x=>x.mkv M) M
def relG (s:Sy) (M:List Bool):List Bool:=s.procs.foldl (fun M p=>p.edges.foldl (fun M e=>e.guard.mkv M) M) M
def Ed.relv (M:List Bool) (e:Ed):List Bool:=if 0≤e.var∧M.getD e.var.toNat false=true then e.value.mkv M else M
def relV (s:Sy) (M:List Bool):List Bool:=s.procs.foldl (fun M p=>p.edges.foldl Ed.relv M) M
def Sy.rel (s:Sy) (labels:List Exq):List Bool:=relV s (relV s (relV s (relG s (relL labels [false,false,false]))))
end Go.Proofs.YtbanccfdojgocaaGreat

namespace Go.Proofs.YtbanccfdojgocaaGreat
open Go
theorem Rep.cut {α:Type} [Ty α] {h:Heap}{v:Value}{l:List α}(R:Rep h v l) {n esz:Nat}{k:IntKind}(hn:n≤l.length):∃v',sliceVV esz v none (some (some (.int k n))) none=some v'∧Rep h v' (l.take n):=by
 obtain⟨p,cap,rfl,h1,h2,h3⟩:=Rep_list.1 R
 have hl:(l.take n).length=n:=by simp; omega
 have hc:n≤cap:=by omega
 cases n with
 | zero=>
  cases p with
  | none=>
   refine⟨.slice none 0 cap,?_,Rep_list.2 ⟨none,cap,by simp,by simp,trivial,fun i hi=>by simp at hi⟩⟩
   simp[sliceVV,bndV]
  | some a=>
   by_cases hz:cap=0
   ·refine⟨.slice (some a) 0 cap,?_,Rep_list.2 ⟨some a,cap,by simp,by simp,trivial,fun i hi=>by simp at hi⟩⟩
    simp[sliceVV,bndV,hz]
   ·refine⟨.slice (some (a.add 0)) 0 cap,?_,Rep_list.2 ⟨some (a.add 0),cap,by simp,by simp,trivial,fun i hi=>by simp at hi⟩⟩
    simp[sliceVV,bndV,hz]
 | succ n=>
  obtain⟨b,off,vs,rfl,_⟩:=h3 0 (by omega)
  refine⟨.slice (some ⟨b,off,none⟩) (n+1) cap,?_,Rep_list.2 ⟨_,cap,by rw[hl],by rw[hl]; omega,trivial,fun i hi=>?_⟩⟩
  ·simp[sliceVV,bndV,add_none]
   rw[if_pos (by omega)]
  ·rw[hl] at hi
   obtain⟨b',off',vs,e1,e2,e3⟩:=h3 i (by omega)
   exact⟨b',off',vs,e1,e2,by simpa using e3⟩
@[simp] theorem nilcV_ptr {a:Addr}:nilcV (.pointer (some a))=some (.pointer (some a)):=rfl
instance instTyU8:Ty (BitVec 8) where
 agg:=false
 sz:=1
 rep:=fun _ cs n=>cs=[.int .u8 n.toNat]
 own:=fun r cs n=>r=Heap.nil∧cs=[.int .u8 n.toNat]
 one:=fun _=>rfl
 len:=by rintro h cs x rfl; rfl
 cell:=by rintro h cs x rfl v hv; simp at hv; subst hv; rfl
 mono:=fun _ hr=>hr
 own_rep:=fun ho=>ho.2
instance instFlatU8:Flat (BitVec 8):=⟨fun n=>[.int .u8 n.toNat],fun _=>True,by simp[Ty.rep],by simp[Ty.own]⟩
theorem Rep.Y {h:Heap}{v:Value}{l:List (BitVec 8)}(hr:Rep h v l):((∀(kd:IntKind) (i:Nat),i<l.length→iaV 1 v (.int kd i)=some (elp 1 v i))∧(∀(kd:IntKind) (i:Int),0≤i→i<l.length→iaV 1 v (.int kd i)=some (elp 1 v i.toNat))∧lenVV v=some (.int .i64 l.length)) ∧
  ∀(i:Nat) (hi:i<l.length),hload h (some (elp 1 v i)) none=some (.int .u8 l[i].toNat):=⟨hr.X rfl,fun _ hi=>hr.ldF hi⟩
theorem xor_nn {a b:Int}(ha:0≤a) (ha2:a<9223372036854775808) (hb:0≤b) (hb2:b<9223372036854775808):0≤xorI .i64 a b∧xorI .i64 a b<9223372036854775808:=by
 have e1:(BitVec.ofInt 64 a).toNat=a.toNat:=by rw[BitVec.toNat_ofInt]; congr 1; exact Int.emod_eq_of_lt ha (by omega)
 have e2:(BitVec.ofInt 64 b).toNat=b.toNat:=by rw[BitVec.toNat_ofInt]; congr 1; exact Int.emod_eq_of_lt hb (by omega)
 have h:a.toNat ^^^ b.toNat<2 ^ 63:=Nat.xor_lt_two_pow (by omega) (by omega)
 have e3:xorI .i64 a b=((a.toNat ^^^ b.toNat:Nat):Int):=by
  unfold xorI
  rw[show IntKind.i64.bits=64 from rfl,BitVec.toNat_xor,e1,e2]
  exact wrap64 (by omega) (by omega)
 rw[e3]
 omega
abbrev rb (b:Nat) (sl:Value) (p:Int):HP:=bx b [sl,.int .i64 p]
theorem tmod_rng {a b:Int}(ha:0≤a) (hb:0<b):0≤a.tmod b∧a.tmod b<b:=by
 rw[Int.tmod_eq_emod_of_nonneg ha]
 exact⟨Int.emod_nonneg _ (by omega),Int.emod_lt_of_pos _ hb⟩
theorem tdiv_rng {a b:Int}(ha:0≤a) (hb:0<b):0≤a.tdiv b∧a.tdiv b≤a:=by
 rw[Int.tdiv_eq_ediv_of_nonneg ha]
 exact⟨Int.ediv_nonneg ha (by omega),Int.ediv_le_self _ ha⟩
theorem c_pick {g h:Heap}{Γ:List HP}{b:Nat}{sl:Value}{l:List (BitVec 8)}{p n:Int}(R:Rep g sl l) (H:HS g (rb b sl p::Γ) h) (hp:0≤p) (hp2:p<1099511627776) (hn:I64 n) :
  CallE Tryz.prog fn_spec_l16Rd_pick [.pointer (some ⟨b,0,none⟩),.int .i64 n] h (fun u h'=>∃r,u=.int .i64 r∧I64 r∧0≤r∧(1≤n→r<n)∧HS g (rb b sl (p+1)::Γ) h'):=by
 have hL:=R.lt
 have hn1:=hn.1
 have hn2:=hn.2
 refine CallE.gen fun k hk=>EN_spec_l16Rd_pick rfl ?_
 have hb0:hload h (some (.pointer (some ⟨b,0,none⟩))) none=some sl:=H.bxld rfl
 have hb1:hload h (some (.pointer (some ⟨b,1,none⟩))) none=some (.int .i64 p):=H.bxld rfl
 simp -implicitDefEqProofs (disch:=first|omega|(simp only[LnZ];omega))[wrap64,hb0,hb1]
 refine HS.bxst (o:=1) (sz:=1) (u:=.int .i64 (p+1)) H rfl rfl rfl rfl (by simp) fun h2 H=>?_
 replace H:HS g (rb b sl (p+1)::Γ) h2:=H
 have hb0:hload h2 (some (.pointer (some ⟨b,0,none⟩))) none=some sl:=H.bxld rfl
 have hb1:hload h2 (some (.pointer (some ⟨b,1,none⟩))) none=some (.int .i64 (p+1)):=H.bxld rfl
 by_cases a1:n<1
 ·simp -implicitDefEqProofs (disch:=first|omega|(simp only[LnZ];omega))[wrap64,hb0,hb1,a1]
  exact RetK.keep (hk _ _ ⟨0,rfl,⟨by omega,by omega⟩,by omega,fun h=>absurd h (by omega),H⟩)
 obtain⟨ln,hln⟩:∃ln:Int,ln=l.length:=⟨_,rfl⟩
 have hlen:=(R.on H).len
 rw[← hln] at hlen
 by_cases a2:ln=0
 ·simp -implicitDefEqProofs (disch:=first|omega|(simp only[LnZ];omega))[wrap64,hb0,hb1,a1,hlen,a2]
  exact RetK.keep (hk _ _ ⟨0,rfl,⟨by omega,by omega⟩,by omega,fun h=>by omega,H⟩)
 obtain⟨m,rfl⟩:∃m:Nat,p=m:=⟨p.toNat,(Int.toNat_of_nonneg hp).symm⟩
 have hn0:¬n=0:=by omega
 by_cases a3:(m:Int)<ln
 ·have hk3:m<l.length:=by omega
  obtain⟨c,hc⟩:∃c:Int,c=l[m].toNat:=⟨_,rfl⟩
  have hc2:c<256:=by have:=l[m].isLt; omega
  have hc0:0≤c:=by omega
  have hld:=(R.on H).Y.2 m hk3
  rw[← hc] at hld
  obtain⟨r1,r2⟩:=tmod_rng hc0 (show 0<n by omega)
  simp -implicitDefEqProofs (disch:=first|omega|(simp only[LnZ];omega))[wrap64,hb0,hb1,a1,hlen,a2,a3,(R.on H).Y.1.1,hld,hn0]
  exact RetK.keep (hk _ _ ⟨c.tmod n,rfl,⟨by omega,by omega⟩,r1,fun _=>r2,H⟩)
 ·obtain⟨s1,s2⟩:=tmod_rng (a:=(m:Int)) (b:=ln) (by omega) (by omega)
  obtain⟨i1,hi1⟩:∃i1:Nat,(m:Int).tmod ln=i1:=⟨_,(Int.toNat_of_nonneg s1).symm⟩
  obtain⟨t1,t2⟩:=tmod_rng (a:=(m:Int)*7+3) (b:=ln) (by omega) (by omega)
  obtain⟨i2,hi2⟩:∃i2:Nat,((m:Int)*7+3).tmod ln=i2:=⟨_,(Int.toNat_of_nonneg t1).symm⟩
  obtain⟨q1,q2⟩:=tdiv_rng (a:=(m:Int)) (b:=ln) (by omega) (by omega)
  obtain⟨q,hq⟩:∃q:Int,(m:Int).tdiv ln=q:=⟨_,rfl⟩
  rw[hi1] at s1 s2
  rw[hi2] at t1 t2
  rw[hq] at q1 q2
  have hl1:i1<l.length:=by omega
  have hl2:i2<l.length:=by omega
  obtain⟨c,hc⟩:∃c:Int,c=l[i1].toNat:=⟨_,rfl⟩
  have hc2:c<256:=by have:=l[i1].isLt; omega
  have hc0:0≤c:=by omega
  have hld:=(R.on H).Y.2 i1 hl1
  rw[← hc] at hld
  obtain⟨d,hd⟩:∃d:Int,d=l[i2].toNat:=⟨_,rfl⟩
  have hd2:d<256:=by have:=l[i2].isLt; omega
  have hd0:0≤d:=by omega
  have hld2:=(R.on H).Y.2 i2 hl2
  rw[← hd] at hld2
  obtain⟨x,hx⟩:∃x:Int,x=c*131+d*1117+(m:Int)*29+q*53:=⟨_,rfl⟩
  have hx0:0≤x:=by omega
  have hx1:x<9223372036854775808:=by omega
  obtain⟨y1,y2⟩:=tdiv_rng (a:=x) (b:=64) hx0 (by omega)
  obtain⟨z1,z2⟩:=xor_nn hx0 hx1 y1 (by omega)
  obtain⟨w1,w2⟩:=tmod_rng z1 (show 0<n by omega)
  simp -implicitDefEqProofs (disch:=first|omega|(simp only[LnZ];omega))[wrap64,hb0,hb1,a1,hlen,a2,a3,(R.on H).Y.1.1,hi1,hi2,hq,hld,hld2,hn0,← hx]
  exact RetK.keep (hk _ _ ⟨_,rfl,⟨by omega,by omega⟩,w1,fun _=>w2,H⟩)
theorem c_num {g h:Heap}{Γ:List HP}{b:Nat}{sl v:Value}{l:List (BitVec 8)}{p:Int}{xs:List Int}(R:Rep g sl l) (H:HS g (ow v xs::rb b sl p::Γ) h) (hp:0≤p) (hp2:p<1099511627776) (hx:xs≠[]) :
  CallE Tryz.prog fn_spec_l16Rd_num [.pointer (some ⟨b,0,none⟩),v] h (fun u h'=>∃r,u=.int .i64 r∧I64 r∧r∈xs∧HS g (rb b sl (p+1)::Γ) h'):=by
 have hL:=H.rep.lt
 have hpos:0<xs.length:=List.length_pos_iff.2 hx
 refine CallE.gen fun k hk=>EN_spec_l16Rd_num rfl ?_
 simp -implicitDefEqProofs (disch:=first|omega|(simp only[LnZ];omega))[wrap64,H.rep.len]
 refine (c_pick R H.sw1 hp hp2 ⟨by omega,by omega⟩).go ?_
 rintro _ h1 ⟨r,rfl,hr,hr0,hr1,H⟩
 obtain⟨i,rfl⟩:∃i:Nat,r=i:=⟨r.toNat,(Int.toNat_of_nonneg hr0).symm⟩
 have hi:i<xs.length:=by have:=hr1 (by omega); omega
 have hok:=H.sw1.rep.okI hi
 simp -implicitDefEqProofs (disch:=first|omega|(simp only[LnZ];omega))[wrap64,H.sw1.rep.I]
 exact RetK.keep (hk _ _ ⟨xs[i],rfl,⟨hok.1,hok.2⟩,List.getElem_mem hi,H.sw1.drop⟩)
theorem c_l16Open {h:Heap}{v:Value}{l:List (BitVec 8)}(R:Rep h v l):CallE Tryz.prog fn_spec_l16Open [v] h (fun u h'=>∃b sl,∃l':List (BitVec 8),u=.pointer (some ⟨b,0,none⟩)∧Rep h sl l'∧HS h [rb b sl 0] h'):=by
 have hL:=R.lt
 refine CallE.gen fun k hk=>EN_spec_l16Open rfl ?_
 by_cases a1:(2000:Int)<l.length
 ·obtain⟨v',e1,R'⟩:=R.cut (n:=2000) (esz:=1) (k:=.i64) (by omega)
  have hO:=R'.one
  have e2:sliceVV 1 v none (some (some (.int .i64 2000))) none=some v':=e1
  simp -implicitDefEqProofs (disch:=first|omega|(simp only[LnZ];omega))[wrap64,R.len,a1,e2,setC,hO,R'.cells]
  refine HS.init.alloc rfl fun b h1 H=>?_
  simp -implicitDefEqProofs (disch:=first|omega|(simp only[LnZ];omega))[wrap64]
  exact RetK.keep (hk _ _ ⟨b,v',_,rfl,R',H⟩)
 ·have hO:=R.one
  simp -implicitDefEqProofs (disch:=first|omega|(simp only[LnZ];omega))[wrap64,R.len,a1,setC,hO,R.cells]
  refine HS.init.alloc rfl fun b h1 H=>?_
  simp -implicitDefEqProofs (disch:=first|omega|(simp only[LnZ];omega))[wrap64]
  exact RetK.keep (hk _ _ ⟨b,v,_,rfl,R,H⟩)
end Go.Proofs.YtbanccfdojgocaaGreat

namespace Go.Proofs.YtbanccfdojgocaaGreat
open Go Go.RowKit
def whole (w:World):Heap:=fun b=>w.heap[b]?
theorem calls_law {P:Program}{f:FuncId}{fn:Func}{args:List Value}{W:World}(hf:P.funcs[f]? = some fn) (hname:(fn.name == "runtime.NumGoroutine")=false) (hb:fn.body.isSome=true)
  (h:CallE P f args (whole W) (fun u h'=>(whole W).le h'∧u=.bool true)):Calls P f args.toArray W fun e W'=>e=.returned (.bool true)∧Below W.heap.size W W':=by
 have h1:=h W (fun b o hb=>hb)
 obtain⟨bd,hbd⟩:=Option.isSome_iff_exists.1 hb
 have hname':¬fn.name = "runtime.NumGoroutine":=by simpa using hname
 have hcall:(callFunc f args.toArray).run P W=.ok (.enter f args.toArray) W:=by
  simp[callFunc,hf,hname',hbd]
 rw[hcall] at h1
 refine Calls.mono h1 ?_
 rintro e W' ⟨v,h',rfl,⟨hl,rfl⟩,hs,hF⟩
 refine⟨rfl,hF.os,hF.tape,hF.output,hF.size,?_⟩
 intro k hk
 have h2:whole W k=some W.heap[k]:=by simp[whole,hk]
 rw[hs _ _ (hl _ _ h2)]
 simp[hk]
section
variable {H:Type}{enc:TypeId×Value→H}{P:Program}
theorem trodAll_below (hl:laidOutB P=true) {W W':World}:∀{ts:List TypeId}{vs:List Value}{ds:List (DataW H)}{ps:List MemPlace},(∀t∈ts,P.readableRec t=true∧t<P.types.size) →
  DataW.TrodAll enc P W 0 (fun _=>true) true ts vs ds ps→Below W.heap.size W W'→(∀x∈ps,x.block<W.heap.size)→DataW.TrodAll enc P W' 0 (fun b=>decide (b<W.heap.size)) true ts vs ds ps
 | [],[],[],_,_,h,_,_=>h
 | _::_,_::_,_::_,_,ht,⟨p,q,h1,h2,e⟩,hb,hlt=>
  ⟨p,q,Below.trod hl (ht _ (by simp)).1 (ht _ (by simp)).2 h1 hb (fun x hx=>hlt x (by rw[e]; exact List.mem_append_left _ hx)),
   trodAll_below hl (fun t h=>ht t (by simp[h])) h2 hb (fun x hx=>hlt x (by rw[e]; exact List.mem_append_right _ hx)),e⟩
theorem kept_below {W W':World}(hb:Below W.heap.size W W') (may:MemPlace→Prop):W.keptBut W' may:=by
 refine⟨hb.os,hb.output,fun i hi=>?_⟩
 rw[hb.block i hi]
 split
 ·rename_i h1 h2; rw[h1] at h2; simp only[Option.some.injEq,Obj.cells.injEq] at h2; obtain⟨rfl,rfl,rfl⟩:=h2; exact⟨rfl,rfl,rfl,fun _ _=>rfl⟩
 ·rename_i h1 h2; rw[h1] at h2; simp only[Option.some.injEq,Obj.map.injEq] at h2; obtain⟨rfl,rfl⟩:=h2; exact .inr ⟨rfl,rfl⟩
 ·rfl
theorem post_law {f:Func}{s:ChangeSpec}{W W':World}{args:Array Value}{ds gs:List (DataW H)}{before:List MemPlace}(hl:laidOutB P=true) (hvars:s.vars=[]) (ht:∀t∈f.params.toList,P.readableRec t=true∧t<P.types.size)
  (hr:∃t,f.resultTypes = #[t]∧P.underlying t=some .bool) (hspec:(s.fn H (ds++gs)).results=[.lit (.bool true)]∧(s.fn H (ds++gs)).args=ds∧(s.fn H (ds++gs)).vars=[])
  (hW:DataW.Whole enc P f.params.toList s.vars false W args.toList ds gs before) (hb:Below W.heap.size W W'):s.post enc P f false true false false W args (.bool true) W':=by
 obtain⟨t,ht1,ht2⟩:=hr
 obtain⟨h1,h2,h3⟩:=hspec
 have hW':=hW
 obtain⟨p,q,hA,hV,rfl,hz,hn⟩:=hW
 rw[hvars] at hV
 obtain⟨rfl,rfl⟩:=Go.ChangeShapes.trodVars_none hV
 have hlt:∀x∈p++[],x.block<W.heap.size:=fun x hx=>by simpa using hW'.lt x hx
 refine⟨ds,[],p++[],[],p,[],hW',?_,?_,?_,World.keptBut_mono (fun x hx=>⟨by simpa using hx,.inr (.inl (by simpa using hx))⟩) (kept_below hb (fun x=>x∈p)),by simp⟩
 ·rw[h1,ht1]
  exact trodAll_cons_mk (shut_bool ht2 _) Go.ChangeShapes.trodAll_mk0
 ·rw[h2]
  exact trodAll_below hl ht hA hb (fun x hx=>hlt x (by simpa using hx))
 ·rw[h3,hvars]; rfl
end
def wOk {H:Type}(P:Program) (t:TypeId) (d:DataW H):Prop:=∀n∈d.weights P t,n≤reachBytes
theorem wOk_all {H:Type}{P:Program}{e:TypeId}:∀{l:List (DataW H)},(∀n∈DataW.weightsAll P e l,n≤reachBytes)→∀d∈l,wOk P e d
 | [],_,d,hd=>by simp at hd
 | x::l,h,d,hd=>by
  simp only[DataW.weightsAll,List.mem_append] at h
  rcases List.mem_cons.1 hd with rfl | hd
  ·exact fun n hn=>h n (.inl hn)
  ·exact wOk_all (fun n hn=>h n (.inr hn)) d hd
theorem wOk_each {H:Type}{P:Program}:∀{ts:List TypeId}{l:List (DataW H)},(∀n∈DataW.weightsEach P ts l,n≤reachBytes)→∀(i:Nat) t d,ts[i]? = some t→l[i]? = some d→wOk P t d
 | [],_,_,i,t,d,h1,_=>by simp at h1
 | _::_,[],_,i,t,d,_,h2=>by simp at h2
 | t0::ts,x::l,h,0,t,d,h1,h2=>by
  simp at h1 h2; subst h1 h2
  exact fun n hn=>h n (by simp only[DataW.weightsEach,List.mem_append]; exact .inl hn)
 | t0::ts,x::l,h,i+1,t,d,h1,h2=>wOk_each (ts:=ts) (l:=l) (fun n hn=>h n (by simp only[DataW.weightsEach,List.mem_append]; exact .inr hn)) i t d (by simpa using h1) (by simpa using h2)
def RdT (P:Program) (t:TypeId) (α:Type) [Ty α]:Prop:=∀{H:Type}(enc:TypeId×Value→H) (W:World) (sp:Nat→Bool) (fuel:Nat) (cs:List Value) (x:DataW H×List MemPlace),
 DataW.trod enc P W 0 sp true fuel t cs=some x→wOk P t x.1→∃y:α,Ty.rep (whole W) cs y
section
variable {P:Program}{t:TypeId}
theorem cells_whole {W:World}{b off:Nat}:∀{n:Nat}{l:List Value},W.cells? 0 ⟨b,off,none⟩ n=some l→hcells (whole W) b off n=some l:=by
 have key:∀n o l,(List.range' o n).mapM (fun i=>W.cell? ((⟨b,off,none⟩:Addr).add i))=some l→hcells (whole W) b (off+o) n=some l:=by
  intro n
  induction n with
  | zero=>intro o l h; simpa[hcells] using h
  | succ n ih=>
   intro o l h
   rw[List.range'_succ,List.mapM_cons] at h
   simp only[Option.bind_eq_bind,Option.bind_eq_some_iff,Option.pure_def,Option.some.injEq] at h
   obtain⟨v,h1,r,h2,rfl⟩:=h
   have h3:=ih (o+1) r h2
   have h4:hcell (whole W) b (off+o)=some v:=by
    rw[addr_add0] at h1
    simp only[World.cell?,Option.isSome_none,Bool.false_eq_true,if_false] at h1
    simp only[hcell,whole]
    split at h1
    ·rename_i hb; rw[hb]; exact h1
    ·simp at h1
   simp only[hcells,h4]
   rw[show off+o+1=off+(o+1) by omega,h3]
 intro n l h
 simp only[World.cells?,Nat.zero_le,if_true] at h
 rw[List.range_eq_range'] at h
 exact key n 0 l h
theorem cells_spot {W:World}{b off s n:Nat}(hn:0<n):W.cells? 0 ⟨b,off,some s⟩ n=none:=by
 simp only[World.cells?,Nat.zero_le,if_true]
 cases n with
 | zero=>omega
 | succ n=>
  rw[List.range_succ_eq_map,List.mapM_cons]
  have:W.cell? ((⟨b,off,some s⟩:Addr).add 0)=none:=by
   simp only[Addr.add,if_true,World.cell?]
   split <;> simp
  rw[this]; rfl
theorem rd_list {α:Type} [Ty α] {e:TypeId}(ht:P.underlying t=some (.slice e)) (hc:P.cellsOf e=Ty.sz α) (hpos:0<Ty.sz α) (hby:0<P.bytesOf e) (he:RdT P e α):RdT P t (List α):=by
 intro H enc W sp fuel cs x h hwt
 rcases Go.Deep.open_slice ht h with ⟨rfl,_⟩ | ⟨a,len,cap,m,n,D,Pl,rfl,_,hlen,hcap,hm,rfl,hel⟩
 ·exact⟨[],none,0,rfl,by simp,trivial,fun i hi=>by simp at hi⟩
 ·have hle:len≤m:=by rw[hm]; split <;> omega
  simp only[wOk,DataW.weights,ht,List.mem_cons,List.mem_append] at hwt
  have hsz:len≤reachBytes:=by
   have h1:=hwt _ (.inl rfl)
   simp only[List.length_map,List.length_range] at h1
   have h2:len*1≤(len+(m-len))*P.bytesOf e:=Nat.mul_le_mul (by omega) hby
   omega
  have hwe:=wOk_all (fun n hn=>hwt n (.inr (.inl hn)))
  have hall:∀i,i<len→∃y:α,∃b off vs,some a=some (⟨b,off,none⟩:Addr)∧hcells (whole W) b (off+i*Ty.sz α) (Ty.sz α)=some vs∧Ty.rep (whole W) vs y:=by
   intro i hi
   obtain⟨cs',h1,h2⟩:=hel i (by omega)
   obtain⟨y,hy⟩:=he enc W sp n cs' _ h2 (hwe _ (List.mem_map.2 ⟨i,by simpa using hi,rfl⟩))
   obtain⟨b,off,spot⟩:=a
   rw[hc] at h1
   -- the address is plain: its first element could be read
   have h0:spot=none:=by
    cases spot with
    | none=>rfl
    | some s=>
     obtain⟨cs0,g1,_⟩:=hel 0 (by omega)
     rw[hc] at g1
     simp only[Nat.zero_mul,Addr.add,if_true] at g1
     rw[cells_spot hpos] at g1
     simp at g1
   subst h0
   rw[addr_add0] at h1
   exact⟨y,b,off,cs',rfl,cells_whole h1,hy⟩
  have hch:∃l:List α,l.length=len∧∀i (hi:i<l.length),∃b off vs,some a=some (⟨b,off,none⟩:Addr)∧hcells (whole W) b (off+i*Ty.sz α) (Ty.sz α)=some vs∧Ty.rep (whole W) vs l[i]:=by
   refine⟨(List.finRange len).map fun i=>Classical.choose (hall i.1 i.2),by simp,fun i hi=>?_⟩
   have hi':i<len:=by simpa using hi
   have:=Classical.choose_spec (hall i hi')
   simpa using this
  obtain⟨l,hl,hr⟩:=hch
  refine⟨l,some a,cap,by rw[hl],⟨by omega,?_⟩,trivial,hr⟩
  have:reachBytes<4611686018427387904:=by decide
  omega
end
section
variable {P:Program}{W:World}{r:Reach}{base:Nat}{t e:TypeId}{v:Value}
theorem okWide_slice (ht:P.underlying t=some (.slice e)) (h:Value.okWide P W r base t v):∃a n c,v=.slice a n c:=by
 unfold Value.okWide at h
 rw[ht] at h
 simp only[Cell.okWide,ht] at h
 cases v <;> simp[Cell.ok,ht] at h ⊢
end
end Go.Proofs.YtbanccfdojgocaaGreat

namespace Go.Proofs.YtbanccfdojgocaaGreat
open Go
theorem rd_u8 {P:Program}{t:TypeId}(ht:P.underlying t=some (.int .u8)):RdT P t (BitVec 8):=by
 intro H enc W sp fuel cs x h hwt
 cases fuel with
 | zero=>simp[DataW.trod] at h
 | succ n=>
  unfold DataW.trod at h
  rw[ht] at h
  split at h
  case h_2 k k' m h1=>
   simp only[Option.some.injEq,TypeDesc.int.injEq] at h1
   subst h1
   split at h
   case isTrue hc=>
    obtain⟨rfl,hw⟩:=hc
    have:=bounds_u8 hw
    refine⟨BitVec.ofNat 8 m.toNat,?_⟩
    show _=[Value.int .u8 ((BitVec.ofNat 8 m.toNat).toNat:Int)]
    have e:((BitVec.ofNat 8 m.toNat).toNat:Int)=m:=by
     rw[BitVec.toNat_ofNat,Nat.mod_eq_of_lt (by omega)]; omega
    rw[e]
   case isFalse=>simp at h
  all_goals simp_all
end Go.Proofs.YtbanccfdojgocaaGreat

namespace Go.Proofs.YtbanccfdojgocaaGreat
open Go
def H_laws_FnMonitorSafety:Hint:=⟨[(0,false),(2,false),(3,true),(4,false),(5,true),(6,false),(7,false),(8,false)],[[0,1,2,4]]⟩
def K13_1:C:=.seq (.pl <| .e 8 4 <|
 .m 8 5 <|
 .x 9 (.ia 1 (.v 8) (.c (.int .i64 0))) <|
 .l 10 9 <|
 .x 11 (.bin .eql (.v 10) (.c (.int .i64 0))) <|
 .m 1 11 .done) (.ret)
@[simp] def W13_1 := C.w K13_1.eq_1
def K13_2:C:=.pl <| .e 8 2 <|
 .m 8 7 <|
 .x 9 (.bin .add (.v 8) (.c (.int .i64 1))) <|
 .m 7 9 .done
@[simp] def W13_2 := C.w K13_2.eq_1
def K13_3:C:=.seq (.pl <| .e 8 0 <|
 .x 1 (.mv (.c (.bool false))) .done) (.ret)
@[simp] def W13_3 := C.w K13_3.eq_1
def K13_4:C:=.cond 8 (.v 15) K13_3 (.skip)
@[simp] def W13_4 := C.w K13_4.eq_1
def K13_5:C:=.seq (.pl <| .e 8 8 <|
 .m 8 5 <|
 .m 9 7 <|
 .x 10 (.bin .add (.v 9) (.c (.int .i64 1))) <|
 .x 11 (.ia 1 (.v 8) (.v 10)) <|
 .l 12 11 <|
 .x 13 (.bin .eql (.v 12) (.c (.int .i64 2))) <|
 .m 14 6 <|
 .x 15 (.eqb false (.v 13) (.v 14)) .done) K13_4
@[simp] def W13_5 := C.w K13_5.eq_1
def K13_6:C:=.seq (.block 1 (.seq (.pl <| .e 8 9 <|
 .m 8 6 <|
 .m 9 8 <|
 .y 9 (.px (some 10) (.mv (.v 3))) <|
 .y 9 (.px (some 11) (.mv (.v 7))) <|
 .y 9 (.px (some 12) (.ia 1 (.v 10) (.v 11))) <|
 .y 9 (.ld (some 13) (.v 12) none) <|
 .y 9 (.px (some 14) (.bin .rem (.v 13) (.c (.int .i64 2)))) <|
 .y 9 (.px (some 15) (.bin .eql (.v 14) (.c (.int .i64 1)))) <|
 .x 16 (.pick (.v 9) (.v 15) (.c (.bool false))) <|
 .m 6 16 .done) K13_5)) K13_2
@[simp] def W13_6 := C.w K13_6.eq_1
def K13_7:C:=.cond 8 (.v 11) (.skip) (.exit 0)
@[simp] def W13_7 := C.w K13_7.eq_1
def K13_8:C:=.seq (.seq (.pl <| .e 8 4 <|
 .m 8 7 <|
 .m 9 3 <|
 .x 10 (.lenV (.v 9)) <|
 .x 11 (.bin .lss (.v 8) (.v 10)) .done) K13_7) K13_6
@[simp] def W13_8 := C.w K13_8.eq_1
def K13_9:C:=.block 0 (.loop 8 [0,1,2,4] K13_8)
@[simp] def W13_9 := C.w K13_9.eq_1
def K13_10:C:=.seq (.seq (.pl <| .e 8 0 <|
 .x 7 (.mv (.c (.int .i64 0))) .done) K13_9) K13_1
@[simp] def W13_10 := C.w K13_10.eq_1
def K13_11:C:=.seq (.pl <| .e 8 0 <|
 .x 6 (.mv (.c (.bool true))) .done) K13_10
@[simp] def W13_11 := C.w K13_11.eq_1
def K13_12:Pl:=.m 1 12 .done
@[simp] def W13_12 := Pl.w K13_12.eq_1
def K13_13:Pl:=.c 12 (.call fn_laws_wpInts [.v 8,.v 11]) K13_12
@[simp] def W13_13 := Pl.w K13_13.eq_1
def K13_14:C:=.seq (.pl <| .e 8 5 <|
 .m 8 5 <|
 .o (.pget (some 9) none 4 0 (some 3)) <|
 .m 10 3 <|
 .c 11 (.call fn_spec_MonitorRun [.v 9,.v 10]) K13_13) (.ret)
@[simp] def W13_14 := C.w K13_14.eq_1
def K13_15:C:=.cond 8 (.v 18) K13_14 (.skip)
@[simp] def W13_15 := C.w K13_15.eq_1
def K13_16:Pl:=.x 13 (.un .not (.v 12)) <|
 .m 14 13 <|
 .n 14 (.px (some 15) (.mv (.v 5))) <|
 .n 14 (.px (some 16) (.lenV (.v 15))) <|
 .n 14 (.px (some 17) (.bin .eql (.v 16) (.c (.int .i64 0)))) <|
 .x 18 (.pick (.v 14) (.c (.bool true)) (.v 17)) .done
@[simp] def W13_16 := Pl.w K13_16.eq_1
def K13_17:Pl:=.c 12 (.call fn_laws_wpInts [.v 8,.v 11]) K13_16
@[simp] def W13_17 := Pl.w K13_17.eq_1
def K13_18:C:=.seq (.seq (.pl <| .e 8 11 <|
 .m 8 5 <|
 .o (.pget (some 9) none 4 0 (some 3)) <|
 .m 10 3 <|
 .c 11 (.call fn_spec_MonitorRun [.v 9,.v 10]) K13_17) K13_15) K13_11
@[simp] def W13_18 := C.w K13_18.eq_1
def K13_19:Pl:=.m 5 10 .done
@[simp] def W13_19 := Pl.w K13_19.eq_1
def K13_20:C:=.seq (.pl <| .e 8 3 <|
 .o (.pget (some 8) none 4 0 (some 3)) <|
 .m 9 3 <|
 .c 10 (.call fn_impl_MonitorRun [.v 8,.v 9]) K13_19) K13_18
@[simp] def W13_20 := C.w K13_20.eq_1
def K13_21:Pl:=.x 10 (.build [.int .i64 0,.int .i64 0,.slice none 0 0] [(0,1,.c (.int .i64 10)),(2,1,.v 9)]) <|
 .o (.pnew 4 (.c (.agg #[.int .i64 0,.int .i64 0,.slice none 0 0])) []) <|
 .o (.pset none 4 0 3 (.v 10)) .done
@[simp] def W13_21 := Pl.w K13_21.eq_1
def K13_22:C:=.seq (.pl <| .e 8 3 <|
 .x 8 (.build [.int .i64 0,.int .i64 0,.slice none 0 0] [(0,1,.c (.int .i64 2))]) <|
 .c 9 (.bls 3 1 [.int .i64 0,.int .i64 0,.slice none 0 0] [(0,3,.v 8)]) K13_21) K13_20
@[simp] def W13_22 := C.w K13_22.eq_1
def K13_23:Pl:=.m 10 9 <|
 .x 11 (.extract 0 (.v 10)) <|
 .x 12 (.extract 1 (.v 10)) <|
 .o (.pnew 2 (.c (.agg #[.int .i64 0,.int .i64 0,.slice none 0 0])) []) <|
 .o (.pset none 2 0 3 (.v 11)) <|
 .m 3 12 .done
@[simp] def W13_23 := Pl.w K13_23.eq_1
def K13_24:C:=.seq (.pl <| .e 8 5 <|
 .m 8 0 <|
 .c 9 (.call fn_spec_DrawMonitorRun [.v 8]) K13_23) K13_22
@[simp] def W13_24 := C.w K13_24.eq_1
def K13_25:C:=.seq (.pl <| .e 8 0 <|
 .x 1 (.mv (.c (.bool true))) .done) (.ret)
@[simp] def W13_25 := C.w K13_25.eq_1
def K13_26:C:=.cond 8 (.v 10) K13_25 (.skip)
@[simp] def W13_26 := C.w K13_26.eq_1
def K13_27:C:=.seq (.seq (.pl <| .e 8 3 <|
 .m 8 0 <|
 .x 9 (.lenV (.v 8)) <|
 .x 10 (.bin .gtr (.v 9) (.c (.int .i64 1048576))) .done) K13_26) K13_24
@[simp] def W13_27 := C.w K13_27.eq_1
def B_laws_FnMonitorSafety:C:=.seq (.pl <| .e 8 0 <|
 .x 1 (.mv (.c (.bool false))) .done) K13_27
@[simp] def WB_laws_FnMonitorSafety := C.w B_laws_FnMonitorSafety.eq_1
def R_laws_FnMonitorSafety:FIR:=⟨B_laws_FnMonitorSafety,8,[(1,none)]⟩
theorem IR_laws_FnMonitorSafety:cfun Tryz.prog H_laws_FnMonitorSafety Tryz.f13=some R_laws_FnMonitorSafety:=by kernel_rfl
theorem EN_laws_FnMonitorSafety:ENT Tryz.prog B_laws_FnMonitorSafety [(1,none)] 1 8 fn_laws_FnMonitorSafety:=fun hargs hw=>enter Tryz.func13 rfl IR_laws_FnMonitorSafety hargs hw
def H_laws_wpInts:Hint:=⟨[(0,false),(1,false),(4,false),(5,false)],[[2]]⟩
def K44_1:C:=.seq (.pl <| .e 4 0 <|
 .x 2 (.mv (.c (.bool true))) .done) (.ret)
@[simp] def W44_1 := C.w K44_1.eq_1
def K44_2:C:=.pl <| .e 4 2 <|
 .m 4 3 <|
 .x 5 (.bin .add (.v 4) (.c (.int .i64 1))) <|
 .m 3 5 .done
@[simp] def W44_2 := C.w K44_2.eq_1
def K44_3:C:=.seq (.pl <| .e 4 0 <|
 .x 2 (.mv (.c (.bool false))) .done) (.ret)
@[simp] def W44_3 := C.w K44_3.eq_1
def K44_4:C:=.cond 4 (.v 12) K44_3 (.skip)
@[simp] def W44_4 := C.w K44_4.eq_1
def K44_5:C:=.seq (.block 1 (.seq (.pl <| .e 4 9 <|
 .m 4 0 <|
 .m 5 3 <|
 .x 6 (.ia 1 (.v 4) (.v 5)) <|
 .l 7 6 <|
 .m 8 1 <|
 .m 9 3 <|
 .x 10 (.ia 1 (.v 8) (.v 9)) <|
 .l 11 10 <|
 .x 12 (.bin .neq (.v 7) (.v 11)) .done) K44_4)) K44_2
@[simp] def W44_5 := C.w K44_5.eq_1
def K44_6:C:=.cond 4 (.v 7) (.skip) (.exit 0)
@[simp] def W44_6 := C.w K44_6.eq_1
def K44_7:C:=.seq (.seq (.pl <| .e 4 4 <|
 .m 4 3 <|
 .m 5 0 <|
 .x 6 (.lenV (.v 5)) <|
 .x 7 (.bin .lss (.v 4) (.v 6)) .done) K44_6) K44_5
@[simp] def W44_7 := C.w K44_7.eq_1
def K44_8:C:=.block 0 (.loop 4 [2] K44_7)
@[simp] def W44_8 := C.w K44_8.eq_1
def K44_9:C:=.seq (.seq (.pl <| .e 4 0 <|
 .x 3 (.mv (.c (.int .i64 0))) .done) K44_8) K44_1
@[simp] def W44_9 := C.w K44_9.eq_1
def K44_10:C:=.seq (.pl <| .e 4 0 <|
 .x 2 (.mv (.c (.bool false))) .done) (.ret)
@[simp] def W44_10 := C.w K44_10.eq_1
def K44_11:C:=.cond 4 (.v 8) K44_10 (.skip)
@[simp] def W44_11 := C.w K44_11.eq_1
def K44_12:C:=.seq (.seq (.pl <| .e 4 5 <|
 .m 4 0 <|
 .x 5 (.lenV (.v 4)) <|
 .m 6 1 <|
 .x 7 (.lenV (.v 6)) <|
 .x 8 (.bin .neq (.v 5) (.v 7)) .done) K44_11) K44_9
@[simp] def W44_12 := C.w K44_12.eq_1
def B_laws_wpInts:C:=.seq (.pl <| .e 4 0 <|
 .x 2 (.mv (.c (.bool false))) .done) K44_12
@[simp] def WB_laws_wpInts := C.w B_laws_wpInts.eq_1
def R_laws_wpInts:FIR:=⟨B_laws_wpInts,4,[(2,none)]⟩
theorem IR_laws_wpInts:cfun Tryz.prog H_laws_wpInts Tryz.f44=some R_laws_wpInts:=by kernel_rfl
theorem EN_laws_wpInts:ENT Tryz.prog B_laws_wpInts [(2,none)] 2 4 fn_laws_wpInts:=fun hargs hw=>enter Tryz.func44 rfl IR_laws_wpInts hargs hw
def H_spec_DrawMonitorRun:Hint:=⟨[(0,false),(2,true),(3,false),(4,true),(5,false)],[]⟩
def K43_1:C:=.seq (.pl <| .e 5 2 <|
 .o (.pget (some 5) none 3 0 (some 3)) <|
 .m 6 4 <|
 .o (.pset none 1 0 3 (.v 5)) <|
 .m 2 6 .done) (.ret)
@[simp] def W43_1 := C.w K43_1.eq_1
def K43_2:C:=.pl <| .e 5 2 <|
 .m 5 4 <|
 .x 6 (.sliceV 1 (.v 5) none (some (.c (.int .i64 8))) none) <|
 .m 4 6 .done
@[simp] def W43_2 := C.w K43_2.eq_1
def K43_3:C:=.cond 5 (.v 7) K43_2 (.skip)
@[simp] def W43_3 := C.w K43_3.eq_1
def K43_4:C:=.seq (.seq (.pl <| .e 5 3 <|
 .m 5 4 <|
 .x 6 (.lenV (.v 5)) <|
 .x 7 (.bin .gtr (.v 6) (.c (.int .i64 8))) .done) K43_3) K43_1
@[simp] def W43_4 := C.w K43_4.eq_1
def K43_5:Pl:=.m 7 6 <|
 .x 8 (.extract 0 (.v 7)) <|
 .x 9 (.extract 1 (.v 7)) <|
 .o (.pnew 3 (.c (.agg #[.int .i64 0,.int .i64 0,.slice none 0 0])) []) <|
 .o (.pset none 3 0 3 (.v 8)) <|
 .m 4 9 .done
@[simp] def W43_5 := Pl.w K43_5.eq_1
def K43_6:C:=.seq (.pl <| .e 5 5 <|
 .m 5 0 <|
 .c 6 (.call fn_spec_DrawMonitorFormula [.v 5]) K43_5) K43_4
@[simp] def W43_6 := C.w K43_6.eq_1
def B_spec_DrawMonitorRun:C:=.seq (.pl <| .e 5 0 <|
 .o (.pnew 1 (.c (.agg #[.int .i64 0,.int .i64 0,.slice none 0 0])) []) <|
 .x 2 (.mv (.c (.slice none 0 0))) .done) K43_6
@[simp] def WB_spec_DrawMonitorRun := C.w B_spec_DrawMonitorRun.eq_1
def R_spec_DrawMonitorRun:FIR:=⟨B_spec_DrawMonitorRun,5,[(1,some (some 3)),(2,none)]⟩
theorem IR_spec_DrawMonitorRun:cfun Tryz.prog H_spec_DrawMonitorRun Tryz.f43=some R_spec_DrawMonitorRun:=by kernel_rfl
theorem EN_spec_DrawMonitorRun:ENT Tryz.prog B_spec_DrawMonitorRun [(1,some (some 3)),(2,none)] 1 5 fn_spec_DrawMonitorRun:=fun hargs hw=>enter Tryz.func43 rfl IR_spec_DrawMonitorRun hargs hw
end Go.Proofs.YtbanccfdojgocaaGreat

namespace Go.Proofs.YtbanccfdojgocaaGreat
open Go
def H_spec_DrawMonitorFormula:Hint:=⟨[(0,false),(2,true),(3,false),(4,false),(5,true)],[]⟩
def K42_1:Pl:=.o (.pset none 1 0 3 (.v 5)) <|
 .m 2 7 .done
@[simp] def W42_1 := Pl.w K42_1.eq_1
def K42_2:C:=.seq (.pl <| .e 5 3 <|
 .o (.pget (some 5) none 4 0 (some 3)) <|
 .m 6 3 <|
 .c 7 (.call fn_spec_l12Letters [.v 6]) K42_1) (.ret)
@[simp] def W42_2 := C.w K42_2.eq_1
def K42_3:Pl:=.o (.pnew 4 (.c (.agg #[.int .i64 0,.int .i64 0,.slice none 0 0])) []) <|
 .o (.pset none 4 0 3 (.v 8)) .done
@[simp] def W42_3 := Pl.w K42_3.eq_1
def K42_4:Pl:=.c 8 (.call fn_spec_l5Mutate [.v 5,.v 7]) K42_3
@[simp] def W42_4 := Pl.w K42_4.eq_1
def K42_5:C:=.seq (.pl <| .e 5 4 <|
 .m 5 3 <|
 .m 6 3 <|
 .c 7 (.call fn_spec_l5Formula [.v 6]) K42_4) K42_2
@[simp] def W42_5 := C.w K42_5.eq_1
def K42_6:Pl:=.m 3 6 .done
@[simp] def W42_6 := Pl.w K42_6.eq_1
def K42_7:C:=.seq (.pl <| .e 5 2 <|
 .m 5 0 <|
 .c 6 (.call fn_spec_l16Open [.v 5]) K42_6) K42_5
@[simp] def W42_7 := C.w K42_7.eq_1
def B_spec_DrawMonitorFormula:C:=.seq (.pl <| .e 5 0 <|
 .o (.pnew 1 (.c (.agg #[.int .i64 0,.int .i64 0,.slice none 0 0])) []) <|
 .x 2 (.mv (.c (.slice none 0 0))) .done) K42_7
@[simp] def WB_spec_DrawMonitorFormula := C.w B_spec_DrawMonitorFormula.eq_1
def R_spec_DrawMonitorFormula:FIR:=⟨B_spec_DrawMonitorFormula,5,[(1,some (some 3)),(2,none)]⟩
theorem IR_spec_DrawMonitorFormula:cfun Tryz.prog H_spec_DrawMonitorFormula Tryz.f42=some R_spec_DrawMonitorFormula:=by kernel_rfl
theorem EN_spec_DrawMonitorFormula:ENT Tryz.prog B_spec_DrawMonitorFormula [(1,some (some 3)),(2,none)] 1 5 fn_spec_DrawMonitorFormula:=fun hargs hw=>enter Tryz.func42 rfl IR_spec_DrawMonitorFormula hargs hw
def H_spec_l12Letters:Hint:=⟨[(0,false),(2,false),(3,false),(10,false)],[[1,3]]⟩
def K108_1:C:=.seq (.pl <| .e 4 1 <|
 .m 4 2 <|
 .m 1 4 .done) (.ret)
@[simp] def W108_1 := C.w K108_1.eq_1
def K108_2:Pl:=.m 2 9 .done
@[simp] def W108_2 := Pl.w K108_2.eq_1
def K108_3:Pl:=.o (.psl 8 [.int .i64 0] [(0,1,.v 7)]) <|
 .c 9 (.app 8 1 [.int .i64 0] (.o (.v 4)) (.p 1 8)) K108_2
@[simp] def W108_3 := Pl.w K108_3.eq_1
def K108_4:Pl:=.c 7 (.call fn_spec_l16Rd_num [.v 5,.v 6]) K108_3
@[simp] def W108_4 := Pl.w K108_4.eq_1
def K108_5:C:=.pl <| .e 4 6 <|
 .m 4 2 <|
 .m 5 0 <|
 .c 6 (.bls 1 3 [.int .i64 0] [(0,1,.c (.int .i64 8)),(1,1,.c (.int .i64 (-1))),(2,1,.c (.int .i64 9223372036854775807))]) K108_4
@[simp] def W108_5 := C.w K108_5.eq_1
def K108_6:Pl:=.m 2 6 .done
@[simp] def W108_6 := Pl.w K108_6.eq_1
def K108_7:C:=.block 2 (.pl <| .e 4 3 <|
 .m 4 2 <|
 .o (.psl 5 [.int .i64 0] [(0,1,.c (.int .i64 1))]) <|
 .c 6 (.app 8 1 [.int .i64 0] (.o (.v 4)) (.p 1 5)) K108_6)
@[simp] def W108_7 := C.w K108_7.eq_1
def K108_8:C:=.cond 4 (.v 9) (.skip) (.exit 1)
@[simp] def W108_8 := C.w K108_8.eq_1
def K108_9:Pl:=.x 8 (.bin .add (.c (.int .i64 200)) (.v 7)) <|
 .x 9 (.bin .lss (.v 5) (.v 8)) .done
@[simp] def W108_9 := Pl.w K108_9.eq_1
def K108_10:C:=.seq (.seq (.pl <| .e 4 6 <|
 .m 4 2 <|
 .x 5 (.lenV (.v 4)) <|
 .m 6 0 <|
 .c 7 (.call fn_spec_l16Rd_pick [.v 6,.c (.int .i64 2)]) K108_9) K108_8) K108_7
@[simp] def W108_10 := C.w K108_10.eq_1
def K108_11:C:=.block 1 (.loop 4 [1,3] K108_10)
@[simp] def W108_11 := C.w K108_11.eq_1
def K108_12:C:=.cond 4 (.v 5) K108_11 (.skip)
@[simp] def W108_12 := C.w K108_12.eq_1
def K108_13:C:=.seq (.pl <| .e 4 2 <|
 .x 4 (.bin .eql (.v 3) (.c (.int .i64 1))) <|
 .m 5 4 .done) K108_12
@[simp] def W108_13 := C.w K108_13.eq_1
def K108_14:C:=.cond 4 (.v 5) K108_5 K108_13
@[simp] def W108_14 := C.w K108_14.eq_1
def K108_15:C:=.block 0 (.seq (.pl <| .e 4 2 <|
 .x 4 (.bin .eql (.v 3) (.c (.int .i64 0))) <|
 .m 5 4 .done) K108_14)
@[simp] def W108_15 := C.w K108_15.eq_1
def K108_16:C:=.seq (.seq (.pl <| .e 4 1 <|
 .m 4 0 <|
 .c 3 (.call fn_spec_l16Rd_pick [.v 4,.c (.int .i64 40)]) .done) K108_15) K108_1
@[simp] def W108_16 := C.w K108_16.eq_1
def K108_17:Pl:=.m 2 8 .done
@[simp] def W108_17 := Pl.w K108_17.eq_1
def K108_18:Pl:=.c 8 (.call fn_spec_l6Word [.v 4,.v 7]) K108_17
@[simp] def W108_18 := Pl.w K108_18.eq_1
def K108_19:Pl:=.c 7 (.call fn_spec_l16Rd_num [.v 5,.v 6]) K108_18
@[simp] def W108_19 := Pl.w K108_19.eq_1
def K108_20:C:=.seq (.pl <| .e 4 5 <|
 .m 4 0 <|
 .m 5 0 <|
 .c 6 (.bls 1 6 [.int .i64 0] [(0,1,.c (.int .i64 3)),(1,1,.c (.int .i64 2)),(2,1,.c (.int .i64 4)),(3,1,.c (.int .i64 1)),(4,1,.c (.int .i64 0)),(5,1,.c (.int .i64 6))]) K108_19) K108_16
@[simp] def W108_20 := C.w K108_20.eq_1
def B_spec_l12Letters:C:=.seq (.pl <| .e 4 0 <|
 .x 1 (.mv (.c (.slice none 0 0))) .done) K108_20
@[simp] def WB_spec_l12Letters := C.w B_spec_l12Letters.eq_1
def R_spec_l12Letters:FIR:=⟨B_spec_l12Letters,4,[(1,none)]⟩
theorem IR_spec_l12Letters:cfun Tryz.prog H_spec_l12Letters Tryz.f108=some R_spec_l12Letters:=by kernel_rfl
theorem EN_spec_l12Letters:ENT Tryz.prog B_spec_l12Letters [(1,none)] 1 4 fn_spec_l12Letters:=fun hargs hw=>enter Tryz.func108 rfl IR_spec_l12Letters hargs hw
end Go.Proofs.YtbanccfdojgocaaGreat

namespace Go.Proofs.YtbanccfdojgocaaGreat
open Go
end Go.Proofs.YtbanccfdojgocaaGreat

namespace Go.Proofs.YtbanccfdojgocaaGreat
open Go
def H_impl_monitorRun:Hint:=⟨[(0,false),(1,false),(2,true),(4,false),(5,false),(6,true),(7,true),(8,false),(9,false),(10,false),(11,false),(12,false),(13,false),(14,false),(40,false),(41,false)],[[0,2,3,4,7,13]]⟩
def K105_1:C:=.seq (.pl <| .e 16 1 <|
 .m 16 12 <|
 .m 3 16 <|
 .x 4 (.mv (.c (.int .i64 0))) .done) (.ret)
@[simp] def W105_1 := C.w K105_1.eq_1
def K105_2:C:=.pl <| .e 16 1 <|
 .x 16 (.bin .add (.v 15) (.c (.int .i64 1))) <|
 .m 15 16 .done
@[simp] def W105_2 := C.w K105_2.eq_1
def K105_3:Pl:=.m 10 23 <|
 .m 11 31 .done
@[simp] def W105_3 := Pl.w K105_3.eq_1
def K105_4:Pl:=.st (.re 30 (.v 29) none none) <|
 .c 31 (.call fn_impl_Automaton_after [.v 24,.v 25,.v 26,.v 30]) K105_3
@[simp] def W105_4 := Pl.w K105_4.eq_1
def K105_5:C:=.pl <| .e 16 16 <|
 .o (.pget (some 16) none 5 0 (some 3)) <|
 .m 17 8 <|
 .m 18 10 <|
 .m 19 1 <|
 .m 20 13 <|
 .x 21 (.ia 1 (.v 19) (.v 20)) <|
 .l 22 21 <|
 .o (.pget (some 24) none 6 0 (some 3)) <|
 .m 25 9 <|
 .m 26 11 <|
 .m 27 1 <|
 .m 28 13 <|
 .x 29 (.ia 1 (.v 27) (.v 28)) <|
 .l 30 29 <|
 .c 23 (.call fn_impl_Automaton_after [.v 16,.v 17,.v 18,.v 22]) K105_4
@[simp] def W105_5 := C.w K105_5.eq_1
def K105_6:C:=.cond 16 (.v 19) K105_5 (.skip)
@[simp] def W105_6 := C.w K105_6.eq_1
def K105_7:C:=.seq (.pl <| .e 16 4 <|
 .m 16 13 <|
 .m 17 1 <|
 .x 18 (.lenV (.v 17)) <|
 .x 19 (.bin .lss (.v 16) (.v 18)) .done) K105_6
@[simp] def W105_7 := C.w K105_7.eq_1
def K105_8:C:=.pl <| .e 16 3 <|
 .m 16 12 <|
 .m 17 13 <|
 .x 18 (.ia 1 (.v 16) (.v 17)) <|
 .o (.ex none (.store 1 (.v 18) (.c (.int .i64 2)))) .done
@[simp] def W105_8 := C.w K105_8.eq_1
def K105_9:C:=.pl <| .e 16 3 <|
 .m 16 12 <|
 .m 17 13 <|
 .x 18 (.ia 1 (.v 16) (.v 17)) <|
 .o (.ex none (.store 1 (.v 18) (.c (.int .i64 1)))) .done
@[simp] def W105_9 := C.w K105_9.eq_1
def K105_10:C:=.cond 16 (.v 19) K105_9 (.skip)
@[simp] def W105_10 := C.w K105_10.eq_1
def K105_11:Pl:=.x 18 (.un .not (.v 17)) <|
 .m 19 18 .done
@[simp] def W105_11 := Pl.w K105_11.eq_1
def K105_12:C:=.seq (.pl <| .e 16 4 <|
 .m 16 11 <|
 .c 17 (.call fn_slices_Contains_S_bool_bool [.v 16,.c (.bool true)]) K105_11) K105_10
@[simp] def W105_12 := C.w K105_12.eq_1
def K105_13:C:=.cond 16 (.v 19) K105_8 K105_12
@[simp] def W105_13 := C.w K105_13.eq_1
def K105_14:Pl:=.x 18 (.un .not (.v 17)) <|
 .m 19 18 .done
@[simp] def W105_14 := Pl.w K105_14.eq_1
def K105_15:C:=.seq (.block 2 (.seq (.pl <| .e 16 4 <|
 .m 16 10 <|
 .c 17 (.call fn_slices_Contains_S_bool_bool [.v 16,.c (.bool true)]) K105_14) K105_13)) K105_7
@[simp] def W105_15 := C.w K105_15.eq_1
def K105_16:C:=.seq (.block 1 (.seq (.pl <| .e 16 1 <|
 .m 16 15 <|
 .m 13 16 .done) K105_15)) K105_2
@[simp] def W105_16 := C.w K105_16.eq_1
def K105_17:C:=.seq (.cond 16 (.v 16) (.skip) (.exit 0)) K105_16
@[simp] def W105_17 := C.w K105_17.eq_1
def K105_18:C:=.seq (.pl <| .e 16 1 <|
 .x 16 (.bin .lss (.v 15) (.v 14)) .done) K105_17
@[simp] def W105_18 := C.w K105_18.eq_1
def K105_19:C:=.block 0 (.loop 16 [0,2,3,4,7,13] K105_18)
@[simp] def W105_19 := C.w K105_19.eq_1
def K105_20:C:=.seq (.seq (.pl <| .e 16 1 <|
 .m 16 12 <|
 .x 14 (.lenV (.v 16)) <|
 .x 15 (.mv (.c (.int .i64 0))) .done) K105_19) K105_1
@[simp] def W105_20 := C.w K105_20.eq_1
def K105_21:Pl:=.m 12 19 .done
@[simp] def W105_21 := Pl.w K105_21.eq_1
def K105_22:C:=.seq (.pl <| .e 16 4 <|
 .m 16 1 <|
 .x 17 (.lenV (.v 16)) <|
 .x 18 (.bin .add (.v 17) (.c (.int .i64 1))) <|
 .c 19 (.mks 8 1 [.int .i64 0] (.v 18) (.v 18)) K105_21) K105_20
@[simp] def W105_22 := C.w K105_22.eq_1
def K105_23:Pl:=.m 10 18 <|
 .m 11 21 .done
@[simp] def W105_23 := Pl.w K105_23.eq_1
def K105_24:Pl:=.c 21 (.call fn_impl_Automaton_begin [.v 19,.v 20]) K105_23
@[simp] def W105_24 := Pl.w K105_24.eq_1
def K105_25:C:=.seq (.pl <| .e 16 6 <|
 .o (.pget (some 16) none 5 0 (some 3)) <|
 .m 17 8 <|
 .o (.pget (some 19) none 6 0 (some 3)) <|
 .m 20 9 <|
 .c 18 (.call fn_impl_Automaton_begin [.v 16,.v 17]) K105_24) K105_22
@[simp] def W105_25 := C.w K105_25.eq_1
def K105_26:Pl:=.m 8 17 <|
 .m 9 19 .done
@[simp] def W105_26 := Pl.w K105_26.eq_1
def K105_27:Pl:=.c 19 (.call fn_impl_Automaton_live [.v 18]) K105_26
@[simp] def W105_27 := Pl.w K105_27.eq_1
def K105_28:C:=.seq (.pl <| .e 16 4 <|
 .o (.pget (some 16) none 5 0 (some 3)) <|
 .o (.pget (some 18) none 6 0 (some 3)) <|
 .c 17 (.call fn_impl_Automaton_live [.v 16]) K105_27) K105_25
@[simp] def W105_28 := C.w K105_28.eq_1
def K105_29:C:=.seq (.pl <| .e 16 1 <|
 .m 16 7 <|
 .x 3 (.mv (.c (.slice none 0 0))) <|
 .m 4 16 .done) (.ret)
@[simp] def W105_29 := C.w K105_29.eq_1
def K105_30:C:=.cond 16 (.v 17) K105_29 (.skip)
@[simp] def W105_30 := C.w K105_30.eq_1
def K105_31:C:=.seq (.seq (.pl <| .e 16 2 <|
 .m 16 7 <|
 .x 17 (.bin .neq (.v 16) (.c (.int .i64 0))) .done) K105_30) K105_28
@[simp] def W105_31 := C.w K105_31.eq_1
def K105_32:Pl:=.m 19 18 <|
 .x 20 (.extract 0 (.v 19)) <|
 .x 21 (.extract 1 (.v 19)) <|
 .x 22 (.extract 2 (.v 19)) <|
 .o (.pnew 5 (.c (.agg #[.slice none 0 0,.slice none 0 0,.slice none 0 0])) []) <|
 .o (.pnew 6 (.c (.agg #[.slice none 0 0,.slice none 0 0,.slice none 0 0])) []) <|
 .o (.pset none 5 0 3 (.v 20)) <|
 .o (.pset none 6 0 3 (.v 21)) <|
 .m 7 22 .done
@[simp] def W105_32 := Pl.w K105_32.eq_1
def K105_33:C:=.seq (.pl <| .e 16 7 <|
 .o (.pget (some 16) none 2 0 (some 3)) <|
 .m 17 1 <|
 .c 18 (.call fn_impl_monitors [.v 16,.v 17]) K105_32) K105_31
@[simp] def W105_33 := C.w K105_33.eq_1
def B_impl_monitorRun:C:=.seq (.pl <| .e 16 0 <|
 .o (.pnew 2 (.v 0) []) <|
 .x 3 (.mv (.c (.slice none 0 0))) <|
 .x 4 (.mv (.c (.int .i64 0))) .done) K105_33
@[simp] def WB_impl_monitorRun := C.w B_impl_monitorRun.eq_1
def R_impl_monitorRun:FIR:=⟨B_impl_monitorRun,16,[(3,none),(4,none)]⟩
theorem IR_impl_monitorRun:cfun Tryz.prog H_impl_monitorRun Tryz.f105=some R_impl_monitorRun:=by kernel_rfl
theorem EN_impl_monitorRun:ENT Tryz.prog B_impl_monitorRun [(3,none),(4,none)] 2 16 fn_impl_monitorRun:=fun hargs hw=>enter Tryz.func105 rfl IR_impl_monitorRun hargs hw
def H_impl_monitors:Hint:=⟨[(0,false),(1,false),(2,true),(4,true),(5,true),(6,false),(7,true),(8,false),(9,true),(10,false)],[]⟩
def K163_1:C:=.seq (.pl <| .e 10 2 <|
 .o (.pget (some 10) none 6 0 (some 3)) <|
 .o (.pget (some 11) none 8 0 (some 3)) <|
 .o (.pset none 3 0 3 (.v 10)) <|
 .o (.pset none 4 0 3 (.v 11)) <|
 .x 5 (.mv (.c (.int .i64 0))) .done) (.ret)
@[simp] def W163_1 := C.w K163_1.eq_1
def K163_2:C:=.seq (.pl <| .e 10 2 <|
 .x 10 (.build [.slice none 0 0,.slice none 0 0,.slice none 0 0] []) <|
 .x 11 (.build [.slice none 0 0,.slice none 0 0,.slice none 0 0] []) <|
 .o (.pset none 3 0 3 (.v 10)) <|
 .o (.pset none 4 0 3 (.v 11)) <|
 .x 5 (.mv (.c (.int .i64 4))) .done) (.ret)
@[simp] def W163_2 := C.w K163_2.eq_1
def K163_3:C:=.cond 10 (.v 15) K163_2 (.skip)
@[simp] def W163_3 := C.w K163_3.eq_1
def K163_4:C:=.seq (.seq (.pl <| .e 10 6 <|
 .m 10 7 <|
 .x 11 (.un .not (.v 10)) <|
 .m 12 11 <|
 .n 12 (.px (some 13) (.mv (.v 9))) <|
 .n 12 (.px (some 14) (.un .not (.v 13))) <|
 .x 15 (.pick (.v 12) (.c (.bool true)) (.v 14)) .done) K163_3) K163_1
@[simp] def W163_4 := C.w K163_4.eq_1
def K163_5:Pl:=.m 12 11 <|
 .x 13 (.extract 0 (.v 12)) <|
 .x 14 (.extract 1 (.v 12)) <|
 .o (.pnew 8 (.c (.agg #[.slice none 0 0,.slice none 0 0,.slice none 0 0])) []) <|
 .o (.pset none 8 0 3 (.v 13)) <|
 .m 9 14 .done
@[simp] def W163_5 := Pl.w K163_5.eq_1
def K163_6:C:=.seq (.pl <| .e 10 5 <|
 .o (.pget (some 10) none 2 0 (some 3)) <|
 .c 11 (.call fn_impl_negated [.v 10]) K163_5) K163_4
@[simp] def W163_6 := C.w K163_6.eq_1
def K163_7:Pl:=.m 12 11 <|
 .x 13 (.extract 0 (.v 12)) <|
 .x 14 (.extract 1 (.v 12)) <|
 .o (.pnew 6 (.c (.agg #[.slice none 0 0,.slice none 0 0,.slice none 0 0])) []) <|
 .o (.pset none 6 0 3 (.v 13)) <|
 .m 7 14 .done
@[simp] def W163_7 := Pl.w K163_7.eq_1
def K163_8:C:=.seq (.pl <| .e 10 5 <|
 .o (.pget (some 10) none 2 0 (some 3)) <|
 .c 11 (.call fn_impl_TranslateFormula [.v 10]) K163_7) K163_6
@[simp] def W163_8 := C.w K163_8.eq_1
def K163_9:C:=.seq (.pl <| .e 10 2 <|
 .x 10 (.build [.slice none 0 0,.slice none 0 0,.slice none 0 0] []) <|
 .x 11 (.build [.slice none 0 0,.slice none 0 0,.slice none 0 0] []) <|
 .o (.pset none 3 0 3 (.v 10)) <|
 .o (.pset none 4 0 3 (.v 11)) <|
 .x 5 (.mv (.c (.int .i64 3))) .done) (.ret)
@[simp] def W163_9 := C.w K163_9.eq_1
def K163_10:C:=.cond 10 (.v 17) K163_9 (.skip)
@[simp] def W163_10 := C.w K163_10.eq_1
def K163_11:Pl:=.n 13 (.px (some 16) (.un .not (.v 15))) <|
 .x 17 (.pick (.v 13) (.c (.bool true)) (.v 16)) .done
@[simp] def W163_11 := Pl.w K163_11.eq_1
def K163_12:Pl:=.x 12 (.un .not (.v 11)) <|
 .m 13 12 <|
 .n 13 (.px (some 14) (.mv (.v 1))) <|
 .st (.act (some (.v 13,false)) (.ex (some 15) (.call fn_impl_wordOk [.v 14]))) K163_11
@[simp] def W163_12 := Pl.w K163_12.eq_1
def K163_13:C:=.seq (.seq (.pl <| .e 10 8 <|
 .o (.pget (some 10) none 2 0 (some 3)) <|
 .c 11 (.call fn_impl_FormulaValid [.v 10]) K163_12) K163_10) K163_8
@[simp] def W163_13 := C.w K163_13.eq_1
def B_impl_monitors:C:=.seq (.pl <| .e 10 0 <|
 .o (.pnew 2 (.v 0) []) <|
 .o (.pnew 3 (.c (.agg #[.slice none 0 0,.slice none 0 0,.slice none 0 0])) []) <|
 .o (.pnew 4 (.c (.agg #[.slice none 0 0,.slice none 0 0,.slice none 0 0])) []) <|
 .x 5 (.mv (.c (.int .i64 0))) .done) K163_13
@[simp] def WB_impl_monitors := C.w B_impl_monitors.eq_1
def R_impl_monitors:FIR:=⟨B_impl_monitors,10,[(3,some (some 3)),(4,some (some 3)),(5,none)]⟩
theorem IR_impl_monitors:cfun Tryz.prog H_impl_monitors Tryz.f163=some R_impl_monitors:=by kernel_rfl
theorem EN_impl_monitors:ENT Tryz.prog B_impl_monitors [(3,some (some 3)),(4,some (some 3)),(5,none)] 2 10 fn_impl_monitors:=fun hargs hw=>enter Tryz.func163 rfl IR_impl_monitors hargs hw
def H_impl_negated:Hint:=⟨[(0,false),(1,true),(2,true),(3,false),(4,true),(5,false)],[]⟩
def K194_1:Pl:=.x 8 (.extract 0 (.v 7)) <|
 .x 9 (.extract 1 (.v 7)) <|
 .o (.pset none 2 0 3 (.v 8)) <|
 .m 3 9 .done
@[simp] def W194_1 := Pl.w K194_1.eq_1
def K194_2:C:=.seq (.pl <| .e 6 4 <|
 .o (.pget (some 6) none 4 0 (some 3)) <|
 .c 7 (.call fn_impl_TranslateFormula [.v 6]) K194_1) (.ret)
@[simp] def W194_2 := C.w K194_2.eq_1
def K194_3:C:=.seq (.pl <| .e 6 1 <|
 .x 6 (.build [.slice none 0 0,.slice none 0 0,.slice none 0 0] []) <|
 .o (.pset none 2 0 3 (.v 6)) <|
 .x 3 (.mv (.c (.bool false))) .done) (.ret)
@[simp] def W194_3 := C.w K194_3.eq_1
def K194_4:C:=.cond 6 (.v 7) K194_3 (.skip)
@[simp] def W194_4 := C.w K194_4.eq_1
def K194_5:C:=.seq (.seq (.pl <| .e 6 2 <|
 .m 6 5 <|
 .x 7 (.un .not (.v 6)) .done) K194_4) K194_2
@[simp] def W194_5 := C.w K194_5.eq_1
def K194_6:Pl:=.m 8 7 <|
 .x 9 (.extract 0 (.v 8)) <|
 .x 10 (.extract 1 (.v 8)) <|
 .o (.pnew 4 (.c (.agg #[.int .i64 0,.int .i64 0,.slice none 0 0])) []) <|
 .o (.pset none 4 0 3 (.v 9)) <|
 .m 5 10 .done
@[simp] def W194_6 := Pl.w K194_6.eq_1
def K194_7:C:=.seq (.pl <| .e 6 5 <|
 .o (.pget (some 6) none 1 0 (some 3)) <|
 .c 7 (.call fn_impl_NegateFormula [.v 6]) K194_6) K194_5
@[simp] def W194_7 := C.w K194_7.eq_1
def B_impl_negated:C:=.seq (.pl <| .e 6 0 <|
 .o (.pnew 1 (.v 0) []) <|
 .o (.pnew 2 (.c (.agg #[.slice none 0 0,.slice none 0 0,.slice none 0 0])) []) <|
 .x 3 (.mv (.c (.bool false))) .done) K194_7
@[simp] def WB_impl_negated := C.w B_impl_negated.eq_1
def R_impl_negated:FIR:=⟨B_impl_negated,6,[(2,some (some 3)),(3,none)]⟩
theorem IR_impl_negated:cfun Tryz.prog H_impl_negated Tryz.f194=some R_impl_negated:=by kernel_rfl
theorem EN_impl_negated:ENT Tryz.prog B_impl_negated [(2,some (some 3)),(3,none)] 1 6 fn_impl_negated:=fun hargs hw=>enter Tryz.func194 rfl IR_impl_negated hargs hw
def H_impl_wordOk:Hint:=⟨[(0,false),(2,false)],[]⟩
def K193_1:Pl:=.x 8 (.pick (.v 5) (.v 7) (.c (.bool false))) <|
 .m 1 8 .done
@[simp] def W193_1 := Pl.w K193_1.eq_1
def K193_2:C:=.seq (.pl <| .e 2 7 <|
 .m 2 0 <|
 .x 3 (.lenV (.v 2)) <|
 .x 4 (.bin .leq (.v 3) (.c (.int .i64 200))) <|
 .m 5 4 <|
 .y 5 (.px (some 6) (.mv (.v 0))) <|
 .st (.act (some (.v 5,true)) (.ex (some 7) (.call fn_impl_letters [.v 6]))) K193_1) (.ret)
@[simp] def W193_2 := C.w K193_2.eq_1
def B_impl_wordOk:C:=.seq (.pl <| .e 2 0 <|
 .x 1 (.mv (.c (.bool false))) .done) K193_2
@[simp] def WB_impl_wordOk := C.w B_impl_wordOk.eq_1
def R_impl_wordOk:FIR:=⟨B_impl_wordOk,2,[(1,none)]⟩
theorem IR_impl_wordOk:cfun Tryz.prog H_impl_wordOk Tryz.f193=some R_impl_wordOk:=by kernel_rfl
theorem EN_impl_wordOk:ENT Tryz.prog B_impl_wordOk [(1,none)] 1 2 fn_impl_wordOk:=fun hargs hw=>enter Tryz.func193 rfl IR_impl_wordOk hargs hw
def H_spec_NegateFormula:Hint:=⟨[(0,false),(1,true),(2,true),(3,false),(4,true)],[]⟩
def K192_1:C:=.seq (.pl <| .e 5 1 <|
 .o (.pget (some 5) none 4 0 (some 3)) <|
 .o (.pset none 2 0 3 (.v 5)) <|
 .x 3 (.mv (.c (.bool true))) .done) (.ret)
@[simp] def W192_1 := C.w K192_1.eq_1
def K192_2:C:=.seq (.pl <| .e 5 1 <|
 .x 5 (.build [.int .i64 0,.int .i64 0,.slice none 0 0] []) <|
 .o (.pset none 2 0 3 (.v 5)) <|
 .x 3 (.mv (.c (.bool false))) .done) (.ret)
@[simp] def W192_2 := C.w K192_2.eq_1
def K192_3:C:=.cond 5 (.v 7) K192_2 (.skip)
@[simp] def W192_3 := C.w K192_3.eq_1
def K192_4:Pl:=.x 7 (.un .not (.v 6)) .done
@[simp] def W192_4 := Pl.w K192_4.eq_1
def K192_5:C:=.seq (.seq (.pl <| .e 5 3 <|
 .o (.pget (some 5) none 4 0 (some 3)) <|
 .c 6 (.call fn_spec_FormulaValid [.v 5]) K192_4) K192_3) K192_1
@[simp] def W192_5 := C.w K192_5.eq_1
def K192_6:Pl:=.o (.pnew 4 (.c (.agg #[.int .i64 0,.int .i64 0,.slice none 0 0])) []) <|
 .o (.pset none 4 0 3 (.v 7)) .done
@[simp] def W192_6 := Pl.w K192_6.eq_1
def K192_7:Pl:=.c 7 (.call fn_spec_l5Not [.v 6]) K192_6
@[simp] def W192_7 := Pl.w K192_7.eq_1
def K192_8:C:=.seq (.pl <| .e 5 3 <|
 .o (.pget (some 5) none 1 0 (some 3)) <|
 .c 6 (.call fn_spec_l5Copy [.v 5]) K192_7) K192_5
@[simp] def W192_8 := C.w K192_8.eq_1
def K192_9:Pl:=.o (.pset none 2 0 3 (.v 9)) <|
 .x 3 (.mv (.c (.bool true))) .done
@[simp] def W192_9 := Pl.w K192_9.eq_1
def K192_10:C:=.seq (.pl <| .e 5 5 <|
 .a 5 1 <|
 .g 6 5 1 2 <|
 .x 7 (.ia 3 (.v 6) (.c (.int .i64 0))) <|
 .o (.ld (some 8) (.v 7) (some 3)) <|
 .c 9 (.call fn_spec_l5Copy [.v 8]) K192_9) (.ret)
@[simp] def W192_10 := C.w K192_10.eq_1
def K192_11:C:=.cond 5 (.v 7) K192_10 (.skip)
@[simp] def W192_11 := C.w K192_11.eq_1
def K192_12:C:=.seq (.seq (.pl <| .e 5 3 <|
 .a 5 1 <|
 .g 6 5 1 0 <|
 .x 7 (.bin .eql (.v 6) (.c (.int .i64 3))) .done) K192_11) K192_8
@[simp] def W192_12 := C.w K192_12.eq_1
def K192_13:C:=.seq (.pl <| .e 5 1 <|
 .x 5 (.build [.int .i64 0,.int .i64 0,.slice none 0 0] []) <|
 .o (.pset none 2 0 3 (.v 5)) <|
 .x 3 (.mv (.c (.bool false))) .done) (.ret)
@[simp] def W192_13 := C.w K192_13.eq_1
def K192_14:C:=.cond 5 (.v 7) K192_13 (.skip)
@[simp] def W192_14 := C.w K192_14.eq_1
def K192_15:Pl:=.x 7 (.un .not (.v 6)) .done
@[simp] def W192_15 := Pl.w K192_15.eq_1
def K192_16:C:=.seq (.seq (.pl <| .e 5 3 <|
 .o (.pget (some 5) none 1 0 (some 3)) <|
 .c 6 (.call fn_spec_FormulaValid [.v 5]) K192_15) K192_14) K192_12
@[simp] def W192_16 := C.w K192_16.eq_1
def B_spec_NegateFormula:C:=.seq (.pl <| .e 5 0 <|
 .o (.pnew 1 (.v 0) []) <|
 .o (.pnew 2 (.c (.agg #[.int .i64 0,.int .i64 0,.slice none 0 0])) []) <|
 .x 3 (.mv (.c (.bool false))) .done) K192_16
@[simp] def WB_spec_NegateFormula := C.w B_spec_NegateFormula.eq_1
def R_spec_NegateFormula:FIR:=⟨B_spec_NegateFormula,5,[(2,some (some 3)),(3,none)]⟩
theorem IR_spec_NegateFormula:cfun Tryz.prog H_spec_NegateFormula Tryz.f192=some R_spec_NegateFormula:=by kernel_rfl
theorem EN_spec_NegateFormula:ENT Tryz.prog B_spec_NegateFormula [(2,some (some 3)),(3,none)] 1 5 fn_spec_NegateFormula:=fun hargs hw=>enter Tryz.func192 rfl IR_spec_NegateFormula hargs hw
def H_spec_l12Both:Hint:=⟨[(0,false),(1,true),(2,true),(3,true),(4,false),(5,true),(6,false),(7,true),(8,false)],[]⟩
def K103_1:C:=.seq (.pl <| .e 9 6 <|
 .o (.pget (some 9) none 5 0 (some 3)) <|
 .o (.pget (some 10) none 7 0 (some 3)) <|
 .m 11 6 <|
 .m 12 11 <|
 .y 12 (.px (some 13) (.mv (.v 8))) <|
 .x 14 (.pick (.v 12) (.v 13) (.c (.bool false))) <|
 .o (.pset none 2 0 3 (.v 9)) <|
 .o (.pset none 3 0 3 (.v 10)) <|
 .m 4 14 .done) (.ret)
@[simp] def W103_1 := C.w K103_1.eq_1
def K103_2:Pl:=.m 11 10 <|
 .x 12 (.extract 0 (.v 11)) <|
 .x 13 (.extract 1 (.v 11)) <|
 .o (.pnew 7 (.c (.agg #[.slice none 0 0,.slice none 0 0,.slice none 0 0])) []) <|
 .o (.pset none 7 0 3 (.v 12)) <|
 .m 8 13 .done
@[simp] def W103_2 := Pl.w K103_2.eq_1
def K103_3:C:=.seq (.pl <| .e 9 5 <|
 .o (.pget (some 9) none 1 0 (some 3)) <|
 .c 10 (.call fn_spec_l8Negation [.v 9]) K103_2) K103_1
@[simp] def W103_3 := C.w K103_3.eq_1
def K103_4:Pl:=.m 11 10 <|
 .x 12 (.extract 0 (.v 11)) <|
 .x 13 (.extract 1 (.v 11)) <|
 .o (.pnew 5 (.c (.agg #[.slice none 0 0,.slice none 0 0,.slice none 0 0])) []) <|
 .o (.pset none 5 0 3 (.v 12)) <|
 .m 6 13 .done
@[simp] def W103_4 := Pl.w K103_4.eq_1
def K103_5:C:=.seq (.pl <| .e 9 5 <|
 .o (.pget (some 9) none 1 0 (some 3)) <|
 .c 10 (.call fn_spec_TranslateFormula [.v 9]) K103_4) K103_3
@[simp] def W103_5 := C.w K103_5.eq_1
def B_spec_l12Both:C:=.seq (.pl <| .e 9 0 <|
 .o (.pnew 1 (.v 0) []) <|
 .o (.pnew 2 (.c (.agg #[.slice none 0 0,.slice none 0 0,.slice none 0 0])) []) <|
 .o (.pnew 3 (.c (.agg #[.slice none 0 0,.slice none 0 0,.slice none 0 0])) []) <|
 .x 4 (.mv (.c (.bool false))) .done) K103_5
@[simp] def WB_spec_l12Both := C.w B_spec_l12Both.eq_1
def R_spec_l12Both:FIR:=⟨B_spec_l12Both,9,[(2,some (some 3)),(3,some (some 3)),(4,none)]⟩
theorem IR_spec_l12Both:cfun Tryz.prog H_spec_l12Both Tryz.f103=some R_spec_l12Both:=by kernel_rfl
theorem EN_spec_l12Both:ENT Tryz.prog B_spec_l12Both [(2,some (some 3)),(3,some (some 3)),(4,none)] 1 9 fn_spec_l12Both:=fun hargs hw=>enter Tryz.func103 rfl IR_spec_l12Both hargs hw
def H_spec_l12States:Hint:=⟨[(0,false),(1,false),(2,true),(4,false),(5,false),(6,false),(7,false)],[[0,3]]⟩
def K162_1:Pl:=.m 3 9 .done
@[simp] def W162_1 := Pl.w K162_1.eq_1
def K162_2:C:=.seq (.pl <| .e 7 3 <|
 .o (.psl 7 [] []) <|
 .m 8 5 <|
 .c 9 (.app 8 1 [.int .i64 0] (.p 0 7) (.o (.v 8))) K162_1) (.ret)
@[simp] def W162_2 := C.w K162_2.eq_1
def K162_3:C:=.pl <| .e 7 2 <|
 .m 7 6 <|
 .x 8 (.bin .add (.v 7) (.c (.int .i64 1))) <|
 .m 6 8 .done
@[simp] def W162_3 := C.w K162_3.eq_1
def K162_4:Pl:=.m 5 15 .done
@[simp] def W162_4 := Pl.w K162_4.eq_1
def K162_5:Pl:=.c 15 (.call fn_spec_l12Only [.v 13,.v 14]) K162_4
@[simp] def W162_5 := Pl.w K162_5.eq_1
def K162_6:C:=.seq (.block 1 (.pl <| .e 7 9 <|
 .o (.pget (some 7) none 2 0 (some 3)) <|
 .m 8 5 <|
 .m 9 1 <|
 .m 10 6 <|
 .x 11 (.ia 1 (.v 9) (.v 10)) <|
 .l 12 11 <|
 .m 14 4 <|
 .c 13 (.call fn_spec_l12Step [.v 7,.v 8,.v 12]) K162_5)) K162_3
@[simp] def W162_6 := C.w K162_6.eq_1
def K162_7:C:=.cond 7 (.v 10) (.skip) (.exit 0)
@[simp] def W162_7 := C.w K162_7.eq_1
def K162_8:C:=.seq (.seq (.pl <| .e 7 4 <|
 .m 7 6 <|
 .m 8 1 <|
 .x 9 (.lenV (.v 8)) <|
 .x 10 (.bin .lss (.v 7) (.v 9)) .done) K162_7) K162_6
@[simp] def W162_8 := C.w K162_8.eq_1
def K162_9:C:=.block 0 (.loop 7 [0,3] K162_8)
@[simp] def W162_9 := C.w K162_9.eq_1
def K162_10:C:=.seq (.seq (.pl <| .e 7 0 <|
 .x 6 (.mv (.c (.int .i64 0))) .done) K162_9) K162_2
@[simp] def W162_10 := C.w K162_10.eq_1
def K162_11:Pl:=.m 5 10 .done
@[simp] def W162_11 := Pl.w K162_11.eq_1
def K162_12:C:=.seq (.pl <| .e 7 4 <|
 .a 7 2 <|
 .g 8 7 2 0 <|
 .m 9 4 <|
 .c 10 (.call fn_spec_l12Only [.v 8,.v 9]) K162_11) K162_10
@[simp] def W162_12 := C.w K162_12.eq_1
def K162_13:Pl:=.m 4 8 .done
@[simp] def W162_13 := Pl.w K162_13.eq_1
def K162_14:C:=.seq (.pl <| .e 7 2 <|
 .o (.pget (some 7) none 2 0 (some 3)) <|
 .c 8 (.call fn_spec_LiveStates [.v 7]) K162_13) K162_12
@[simp] def W162_14 := C.w K162_14.eq_1
def B_spec_l12States:C:=.seq (.pl <| .e 7 0 <|
 .o (.pnew 2 (.v 0) []) <|
 .x 3 (.mv (.c (.slice none 0 0))) .done) K162_14
@[simp] def WB_spec_l12States := C.w B_spec_l12States.eq_1
def R_spec_l12States:FIR:=⟨B_spec_l12States,7,[(3,none)]⟩
theorem IR_spec_l12States:cfun Tryz.prog H_spec_l12States Tryz.f162=some R_spec_l12States:=by kernel_rfl
theorem EN_spec_l12States:ENT Tryz.prog B_spec_l12States [(3,none)] 2 7 fn_spec_l12States:=fun hargs hw=>enter Tryz.func162 rfl IR_spec_l12States hargs hw
def H_spec_l12Verdict:Hint:=⟨[(0,false),(1,false),(2,false),(3,true),(4,true),(6,false)],[]⟩
def K104_1:C:=.seq (.pl <| .e 6 0 <|
 .x 5 (.mv (.c (.int .i64 0))) .done) (.ret)
@[simp] def W104_1 := C.w K104_1.eq_1
def K104_2:C:=.seq (.pl <| .e 6 0 <|
 .x 5 (.mv (.c (.int .i64 1))) .done) (.ret)
@[simp] def W104_2 := C.w K104_2.eq_1
def K104_3:C:=.cond 6 (.v 10) K104_2 (.skip)
@[simp] def W104_3 := C.w K104_3.eq_1
def K104_4:Pl:=.x 9 (.lenV (.v 8)) <|
 .x 10 (.bin .eql (.v 9) (.c (.int .i64 0))) .done
@[simp] def W104_4 := Pl.w K104_4.eq_1
def K104_5:C:=.seq (.seq (.pl <| .e 6 5 <|
 .o (.pget (some 6) none 4 0 (some 3)) <|
 .m 7 2 <|
 .c 8 (.call fn_spec_l12States [.v 6,.v 7]) K104_4) K104_3) K104_1
@[simp] def W104_5 := C.w K104_5.eq_1
def K104_6:C:=.seq (.pl <| .e 6 0 <|
 .x 5 (.mv (.c (.int .i64 2))) .done) (.ret)
@[simp] def W104_6 := C.w K104_6.eq_1
def K104_7:C:=.cond 6 (.v 10) K104_6 (.skip)
@[simp] def W104_7 := C.w K104_7.eq_1
def K104_8:Pl:=.x 9 (.lenV (.v 8)) <|
 .x 10 (.bin .eql (.v 9) (.c (.int .i64 0))) .done
@[simp] def W104_8 := Pl.w K104_8.eq_1
def K104_9:C:=.seq (.seq (.pl <| .e 6 5 <|
 .o (.pget (some 6) none 3 0 (some 3)) <|
 .m 7 2 <|
 .c 8 (.call fn_spec_l12States [.v 6,.v 7]) K104_8) K104_7) K104_5
@[simp] def W104_9 := C.w K104_9.eq_1
def B_spec_l12Verdict:C:=.seq (.pl <| .e 6 0 <|
 .o (.pnew 3 (.v 0) []) <|
 .o (.pnew 4 (.v 1) []) <|
 .x 5 (.mv (.c (.int .i64 0))) .done) K104_9
@[simp] def WB_spec_l12Verdict := C.w B_spec_l12Verdict.eq_1
def R_spec_l12Verdict:FIR:=⟨B_spec_l12Verdict,6,[(5,none)]⟩
theorem IR_spec_l12Verdict:cfun Tryz.prog H_spec_l12Verdict Tryz.f104=some R_spec_l12Verdict:=by kernel_rfl
theorem EN_spec_l12Verdict:ENT Tryz.prog B_spec_l12Verdict [(5,none)] 3 6 fn_spec_l12Verdict:=fun hargs hw=>enter Tryz.func104 rfl IR_spec_l12Verdict hargs hw
def H_spec_l12Word:Hint:=⟨[(0,false),(2,false)],[]⟩
def K102_1:Pl:=.m 4 3 <|
 .y 4 (.px (some 5) (.mv (.v 0))) <|
 .y 4 (.px (some 6) (.lenV (.v 5))) <|
 .y 4 (.px (some 7) (.bin .leq (.v 6) (.c (.int .i64 200)))) <|
 .x 8 (.pick (.v 4) (.v 7) (.c (.bool false))) <|
 .m 1 8 .done
@[simp] def W102_1 := Pl.w K102_1.eq_1
def K102_2:C:=.seq (.pl <| .e 2 7 <|
 .m 2 0 <|
 .c 3 (.call fn_spec_l6Letters [.v 2]) K102_1) (.ret)
@[simp] def W102_2 := C.w K102_2.eq_1
def B_spec_l12Word:C:=.seq (.pl <| .e 2 0 <|
 .x 1 (.mv (.c (.bool false))) .done) K102_2
@[simp] def WB_spec_l12Word := C.w B_spec_l12Word.eq_1
def R_spec_l12Word:FIR:=⟨B_spec_l12Word,2,[(1,none)]⟩
theorem IR_spec_l12Word:cfun Tryz.prog H_spec_l12Word Tryz.f102=some R_spec_l12Word:=by kernel_rfl
theorem EN_spec_l12Word:ENT Tryz.prog B_spec_l12Word [(1,none)] 1 2 fn_spec_l12Word:=fun hargs hw=>enter Tryz.func102 rfl IR_spec_l12Word hargs hw
def H_spec_l6Letters:Hint:=⟨[(0,false),(2,false),(3,false)],[[1]]⟩
def K160_1:C:=.seq (.pl <| .e 3 0 <|
 .x 1 (.mv (.c (.bool true))) .done) (.ret)
@[simp] def W160_1 := C.w K160_1.eq_1
def K160_2:C:=.pl <| .e 3 2 <|
 .m 3 2 <|
 .x 4 (.bin .add (.v 3) (.c (.int .i64 1))) <|
 .m 2 4 .done
@[simp] def W160_2 := C.w K160_2.eq_1
def K160_3:C:=.seq (.pl <| .e 3 0 <|
 .x 1 (.mv (.c (.bool false))) .done) (.ret)
@[simp] def W160_3 := C.w K160_3.eq_1
def K160_4:C:=.cond 3 (.v 14) K160_3 (.skip)
@[simp] def W160_4 := C.w K160_4.eq_1
def K160_5:C:=.seq (.block 1 (.seq (.pl <| .e 3 12 <|
 .m 3 0 <|
 .m 4 2 <|
 .x 5 (.ia 1 (.v 3) (.v 4)) <|
 .l 6 5 <|
 .x 7 (.bin .lss (.v 6) (.c (.int .i64 0))) <|
 .m 8 7 <|
 .n 8 (.px (some 9) (.mv (.v 0))) <|
 .n 8 (.px (some 10) (.mv (.v 2))) <|
 .n 8 (.px (some 11) (.ia 1 (.v 9) (.v 10))) <|
 .n 8 (.ld (some 12) (.v 11) none) <|
 .n 8 (.px (some 13) (.bin .gtr (.v 12) (.c (.int .i64 7)))) <|
 .x 14 (.pick (.v 8) (.c (.bool true)) (.v 13)) .done) K160_4)) K160_2
@[simp] def W160_5 := C.w K160_5.eq_1
def K160_6:C:=.cond 3 (.v 6) (.skip) (.exit 0)
@[simp] def W160_6 := C.w K160_6.eq_1
def K160_7:C:=.seq (.seq (.pl <| .e 3 4 <|
 .m 3 2 <|
 .m 4 0 <|
 .x 5 (.lenV (.v 4)) <|
 .x 6 (.bin .lss (.v 3) (.v 5)) .done) K160_6) K160_5
@[simp] def W160_7 := C.w K160_7.eq_1
def K160_8:C:=.block 0 (.loop 3 [1] K160_7)
@[simp] def W160_8 := C.w K160_8.eq_1
def K160_9:C:=.seq (.seq (.pl <| .e 3 0 <|
 .x 2 (.mv (.c (.int .i64 0))) .done) K160_8) K160_1
@[simp] def W160_9 := C.w K160_9.eq_1
def B_spec_l6Letters:C:=.seq (.pl <| .e 3 0 <|
 .x 1 (.mv (.c (.bool false))) .done) K160_9
@[simp] def WB_spec_l6Letters := C.w B_spec_l6Letters.eq_1
def R_spec_l6Letters:FIR:=⟨B_spec_l6Letters,3,[(1,none)]⟩
theorem IR_spec_l6Letters:cfun Tryz.prog H_spec_l6Letters Tryz.f160=some R_spec_l6Letters:=by kernel_rfl
theorem EN_spec_l6Letters:ENT Tryz.prog B_spec_l6Letters [(1,none)] 1 3 fn_spec_l6Letters:=fun hargs hw=>enter Tryz.func160 rfl IR_spec_l6Letters hargs hw
def H_spec_l8Negation:Hint:=⟨[(0,false),(1,true),(2,true),(3,false),(4,true),(5,false)],[]⟩
def K161_1:Pl:=.x 8 (.extract 0 (.v 7)) <|
 .x 9 (.extract 1 (.v 7)) <|
 .o (.pset none 2 0 3 (.v 8)) <|
 .m 3 9 .done
@[simp] def W161_1 := Pl.w K161_1.eq_1
def K161_2:C:=.seq (.pl <| .e 6 4 <|
 .o (.pget (some 6) none 4 0 (some 3)) <|
 .c 7 (.call fn_spec_TranslateFormula [.v 6]) K161_1) (.ret)
@[simp] def W161_2 := C.w K161_2.eq_1
def K161_3:C:=.seq (.pl <| .e 6 1 <|
 .x 6 (.build [.slice none 0 0,.slice none 0 0,.slice none 0 0] []) <|
 .o (.pset none 2 0 3 (.v 6)) <|
 .x 3 (.mv (.c (.bool false))) .done) (.ret)
@[simp] def W161_3 := C.w K161_3.eq_1
def K161_4:C:=.cond 6 (.v 7) K161_3 (.skip)
@[simp] def W161_4 := C.w K161_4.eq_1
def K161_5:C:=.seq (.seq (.pl <| .e 6 2 <|
 .m 6 5 <|
 .x 7 (.un .not (.v 6)) .done) K161_4) K161_2
@[simp] def W161_5 := C.w K161_5.eq_1
def K161_6:Pl:=.m 8 7 <|
 .x 9 (.extract 0 (.v 8)) <|
 .x 10 (.extract 1 (.v 8)) <|
 .o (.pnew 4 (.c (.agg #[.int .i64 0,.int .i64 0,.slice none 0 0])) []) <|
 .o (.pset none 4 0 3 (.v 9)) <|
 .m 5 10 .done
@[simp] def W161_6 := Pl.w K161_6.eq_1
def K161_7:C:=.seq (.pl <| .e 6 5 <|
 .o (.pget (some 6) none 1 0 (some 3)) <|
 .c 7 (.call fn_spec_NegateFormula [.v 6]) K161_6) K161_5
@[simp] def W161_7 := C.w K161_7.eq_1
def B_spec_l8Negation:C:=.seq (.pl <| .e 6 0 <|
 .o (.pnew 1 (.v 0) []) <|
 .o (.pnew 2 (.c (.agg #[.slice none 0 0,.slice none 0 0,.slice none 0 0])) []) <|
 .x 3 (.mv (.c (.bool false))) .done) K161_7
@[simp] def WB_spec_l8Negation := C.w B_spec_l8Negation.eq_1
def R_spec_l8Negation:FIR:=⟨B_spec_l8Negation,6,[(2,some (some 3)),(3,none)]⟩
theorem IR_spec_l8Negation:cfun Tryz.prog H_spec_l8Negation Tryz.f161=some R_spec_l8Negation:=by kernel_rfl
theorem EN_spec_l8Negation:ENT Tryz.prog B_spec_l8Negation [(2,some (some 3)),(3,none)] 1 6 fn_spec_l8Negation:=fun hargs hw=>enter Tryz.func161 rfl IR_spec_l8Negation hargs hw
end Go.Proofs.YtbanccfdojgocaaGreat

namespace Go.Proofs.YtbanccfdojgocaaGreat
open Go
end Go.Proofs.YtbanccfdojgocaaGreat

namespace Go.Proofs.YtbanccfdojgocaaGreat
open Go
def H_impl_MonitorRun:Hint:=⟨[(0,false),(1,false),(2,true),(4,false),(5,false)],[]⟩
def K41_1:C:=.seq (.pl <| .e 5 1 <|
 .m 5 4 <|
 .m 3 5 .done) (.ret)
@[simp] def W41_1 := C.w K41_1.eq_1
def K41_2:Pl:=.m 8 7 <|
 .x 9 (.extract 0 (.v 8)) <|
 .x 10 (.extract 1 (.v 8)) <|
 .m 4 9 <|
 .m 11 10 .done
@[simp] def W41_2 := Pl.w K41_2.eq_1
def K41_3:C:=.seq (.pl <| .e 5 7 <|
 .o (.pget (some 5) none 2 0 (some 3)) <|
 .m 6 1 <|
 .c 7 (.call fn_impl_monitorRun [.v 5,.v 6]) K41_2) K41_1
@[simp] def W41_3 := C.w K41_3.eq_1
def B_impl_MonitorRun:C:=.seq (.pl <| .e 5 0 <|
 .o (.pnew 2 (.v 0) []) <|
 .x 3 (.mv (.c (.slice none 0 0))) .done) K41_3
@[simp] def WB_impl_MonitorRun := C.w B_impl_MonitorRun.eq_1
def R_impl_MonitorRun:FIR:=⟨B_impl_MonitorRun,5,[(3,none)]⟩
theorem IR_impl_MonitorRun:cfun Tryz.prog H_impl_MonitorRun Tryz.f41=some R_impl_MonitorRun:=by kernel_rfl
theorem EN_impl_MonitorRun:ENT Tryz.prog B_impl_MonitorRun [(3,none)] 2 5 fn_impl_MonitorRun:=fun hargs hw=>enter Tryz.func41 rfl IR_impl_MonitorRun hargs hw
def H_spec_MonitorRun:Hint:=⟨[(0,false),(1,false),(2,true),(4,false),(5,false),(6,true),(7,true),(8,false),(9,false)],[[0,2,3]]⟩
def K40_1:C:=.seq (.pl <| .e 9 1 <|
 .m 9 4 <|
 .m 3 9 .done) (.ret)
@[simp] def W40_1 := C.w K40_1.eq_1
def K40_2:C:=.pl <| .e 9 2 <|
 .m 9 8 <|
 .x 10 (.bin .add (.v 9) (.c (.int .i64 1))) <|
 .m 8 10 .done
@[simp] def W40_2 := C.w K40_2.eq_1
def K40_3:Pl:=.m 4 17 .done
@[simp] def W40_3 := Pl.w K40_3.eq_1
def K40_4:Pl:=.o (.psl 16 [.int .i64 0] [(0,1,.v 15)]) <|
 .c 17 (.app 8 1 [.int .i64 0] (.o (.v 9)) (.p 1 16)) K40_3
@[simp] def W40_4 := Pl.w K40_4.eq_1
def K40_5:C:=.seq (.block 1 (.pl <| .e 9 9 <|
 .m 9 4 <|
 .o (.pget (some 10) none 5 0 (some 3)) <|
 .o (.pget (some 11) none 6 0 (some 3)) <|
 .m 12 1 <|
 .m 13 8 <|
 .x 14 (.sliceV 1 (.v 12) none (some (.v 13)) none) <|
 .c 15 (.call fn_spec_l12Verdict [.v 10,.v 11,.v 14]) K40_4)) K40_2
@[simp] def W40_5 := C.w K40_5.eq_1
def K40_6:C:=.cond 9 (.v 15) (.skip) (.exit 0)
@[simp] def W40_6 := C.w K40_6.eq_1
def K40_7:C:=.seq (.seq (.pl <| .e 9 7 <|
 .m 9 8 <|
 .m 10 1 <|
 .x 11 (.lenV (.v 10)) <|
 .x 12 (.bin .leq (.v 9) (.v 11)) <|
 .m 13 12 <|
 .y 13 (.px (some 14) (.mv (.v 7))) <|
 .x 15 (.pick (.v 13) (.v 14) (.c (.bool false))) .done) K40_6) K40_5
@[simp] def W40_7 := C.w K40_7.eq_1
def K40_8:C:=.block 0 (.loop 9 [0,2,3] K40_7)
@[simp] def W40_8 := C.w K40_8.eq_1
def K40_9:C:=.seq (.seq (.pl <| .e 9 0 <|
 .x 8 (.mv (.c (.int .i64 0))) .done) K40_8) K40_1
@[simp] def W40_9 := C.w K40_9.eq_1
def K40_10:Pl:=.m 11 10 <|
 .x 12 (.extract 0 (.v 11)) <|
 .x 13 (.extract 1 (.v 11)) <|
 .x 14 (.extract 2 (.v 11)) <|
 .o (.pnew 5 (.c (.agg #[.slice none 0 0,.slice none 0 0,.slice none 0 0])) []) <|
 .o (.pnew 6 (.c (.agg #[.slice none 0 0,.slice none 0 0,.slice none 0 0])) []) <|
 .o (.pset none 5 0 3 (.v 12)) <|
 .o (.pset none 6 0 3 (.v 13)) <|
 .m 7 14 .done
@[simp] def W40_10 := Pl.w K40_10.eq_1
def K40_11:C:=.seq (.pl <| .e 9 6 <|
 .o (.pget (some 9) none 2 0 (some 3)) <|
 .c 10 (.call fn_spec_l12Both [.v 9]) K40_10) K40_9
@[simp] def W40_11 := C.w K40_11.eq_1
def K40_12:C:=.seq (.pl <| .e 9 1 <|
 .m 9 4 <|
 .m 3 9 .done) (.ret)
@[simp] def W40_12 := C.w K40_12.eq_1
def K40_13:C:=.cond 9 (.v 16) K40_12 (.skip)
@[simp] def W40_13 := C.w K40_13.eq_1
def K40_14:Pl:=.n 12 (.px (some 15) (.un .not (.v 14))) <|
 .x 16 (.pick (.v 12) (.c (.bool true)) (.v 15)) .done
@[simp] def W40_14 := Pl.w K40_14.eq_1
def K40_15:Pl:=.x 11 (.un .not (.v 10)) <|
 .m 12 11 <|
 .n 12 (.px (some 13) (.mv (.v 1))) <|
 .st (.act (some (.v 12,false)) (.ex (some 14) (.call fn_spec_l12Word [.v 13]))) K40_14
@[simp] def W40_15 := Pl.w K40_15.eq_1
def K40_16:C:=.seq (.seq (.pl <| .e 9 8 <|
 .o (.pget (some 9) none 2 0 (some 3)) <|
 .c 10 (.call fn_spec_FormulaValid [.v 9]) K40_15) K40_13) K40_11
@[simp] def W40_16 := C.w K40_16.eq_1
def K40_17:Pl:=.m 4 9 .done
@[simp] def W40_17 := Pl.w K40_17.eq_1
def K40_18:C:=.seq (.pl <| .e 9 1 <|
 .c 9 (.bls 1 0 [.int .i64 0] []) K40_17) K40_16
@[simp] def W40_18 := C.w K40_18.eq_1
def B_spec_MonitorRun:C:=.seq (.pl <| .e 9 0 <|
 .o (.pnew 2 (.v 0) []) <|
 .x 3 (.mv (.c (.slice none 0 0))) .done) K40_18
@[simp] def WB_spec_MonitorRun := C.w B_spec_MonitorRun.eq_1
def R_spec_MonitorRun:FIR:=⟨B_spec_MonitorRun,9,[(3,none)]⟩
theorem IR_spec_MonitorRun:cfun Tryz.prog H_spec_MonitorRun Tryz.f40=some R_spec_MonitorRun:=by kernel_rfl
theorem EN_spec_MonitorRun:ENT Tryz.prog B_spec_MonitorRun [(3,none)] 2 9 fn_spec_MonitorRun:=fun hargs hw=>enter Tryz.func40 rfl IR_spec_MonitorRun hargs hw
end Go.Proofs.YtbanccfdojgocaaGreat

namespace Go.Proofs.YtbanccfdojgocaaGreat
open Go
def H_impl_Automaton_after:Hint:=⟨[(0,false),(1,false),(2,false),(3,false),(4,true),(8,false),(9,false),(11,true),(16,false),(17,false),(18,false)],[[0,4,5,7]]⟩
def K96_1:C:=.seq (.pl <| .e 11 1 <|
 .m 11 6 <|
 .m 5 11 .done) (.ret)
@[simp] def W96_1 := C.w K96_1.eq_1
def K96_2:C:=.pl <| .e 11 1 <|
 .x 11 (.bin .add (.v 10) (.c (.int .i64 1))) <|
 .m 10 11 .done
@[simp] def W96_2 := C.w K96_2.eq_1
def K96_3:C:=.pl <| .e 11 4 <|
 .m 11 6 <|
 .a 12 7 <|
 .g 13 12 7 3 <|
 .x 14 (.ia 1 (.v 11) (.v 13)) <|
 .o (.ex none (.store 1 (.v 14) (.c (.bool true)))) .done
@[simp] def W96_3 := C.w K96_3.eq_1
def K96_4:C:=.cond 11 (.v 27) K96_3 (.skip)
@[simp] def W96_4 := C.w K96_4.eq_1
def K96_5:Pl:=.x 27 (.pick (.v 23) (.v 26) (.c (.bool false))) .done
@[simp] def W96_5 := Pl.w K96_5.eq_1
def K96_6:C:=.seq (.pl <| .e 11 17 <|
 .m 11 2 <|
 .a 12 7 <|
 .g 13 12 7 0 <|
 .x 14 (.ia 1 (.v 11) (.v 13)) <|
 .l 15 14 <|
 .m 16 15 <|
 .y 16 (.px (some 17) (.mv (.v 1))) <|
 .y 16 (.als 18 none 7) <|
 .y 16 (.pget (some 19) (some 18) 7 3 none) <|
 .y 16 (.px (some 20) (.ia 1 (.v 17) (.v 19))) <|
 .y 16 (.ld (some 21) (.v 20) none) <|
 .x 22 (.pick (.v 16) (.v 21) (.c (.bool false))) <|
 .m 23 22 <|
 .y 23 (.pget (some 24) none 7 0 (some 4)) <|
 .y 23 (.px (some 25) (.mv (.v 3))) <|
 .st (.act (some (.v 23,true)) (.ex (some 26) (.call fn_impl_Transition_takes [.v 24,.v 25]))) K96_5) K96_4
@[simp] def W96_6 := C.w K96_6.eq_1
def K96_7:C:=.seq (.block 1 (.seq (.pl <| .e 11 2 <|
 .x 11 (.ia 4 (.v 8) (.v 10)) <|
 .o (.ld (some 12) (.v 11) (some 4)) <|
 .o (.pnew 7 (.c (.agg #[.int .i64 0,.int .i64 0,.int .i64 0,.int .i64 0])) []) <|
 .o (.pset none 7 0 4 (.v 12)) .done) K96_6)) K96_2
@[simp] def W96_7 := C.w K96_7.eq_1
def K96_8:C:=.seq (.cond 11 (.v 11) (.skip) (.exit 0)) K96_7
@[simp] def W96_8 := C.w K96_8.eq_1
def K96_9:C:=.seq (.pl <| .e 11 1 <|
 .x 11 (.bin .lss (.v 10) (.v 9)) .done) K96_8
@[simp] def W96_9 := C.w K96_9.eq_1
def K96_10:C:=.block 0 (.loop 11 [0,4,5,7] K96_9)
@[simp] def W96_10 := C.w K96_10.eq_1
def K96_11:C:=.seq (.seq (.pl <| .e 11 1 <|
 .a 11 4 <|
 .g 8 11 4 2 <|
 .x 9 (.lenV (.v 8)) <|
 .x 10 (.mv (.c (.int .i64 0))) .done) K96_10) K96_1
@[simp] def W96_11 := C.w K96_11.eq_1
def K96_12:Pl:=.m 6 13 .done
@[simp] def W96_12 := Pl.w K96_12.eq_1
def K96_13:C:=.seq (.pl <| .e 11 3 <|
 .m 11 1 <|
 .x 12 (.lenV (.v 11)) <|
 .c 13 (.mks 1 1 [.bool false] (.v 12) (.v 12)) K96_12) K96_11
@[simp] def W96_13 := C.w K96_13.eq_1
def B_impl_Automaton_after:C:=.seq (.pl <| .e 11 0 <|
 .o (.pnew 4 (.v 0) []) <|
 .x 5 (.mv (.c (.slice none 0 0))) .done) K96_13
@[simp] def WB_impl_Automaton_after := C.w B_impl_Automaton_after.eq_1
def R_impl_Automaton_after:FIR:=⟨B_impl_Automaton_after,11,[(5,none)]⟩
theorem IR_impl_Automaton_after:cfun Tryz.prog H_impl_Automaton_after Tryz.f96=some R_impl_Automaton_after:=by kernel_rfl
theorem EN_impl_Automaton_after:ENT Tryz.prog B_impl_Automaton_after [(5,none)] 4 11 fn_impl_Automaton_after:=fun hargs hw=>enter Tryz.func96 rfl IR_impl_Automaton_after hargs hw
def H_impl_Automaton_begin:Hint:=⟨[(0,false),(1,false),(2,true),(4,false),(5,false),(7,false),(12,false),(13,false),(14,false)],[[0,2,3,5]]⟩
def K94_1:C:=.seq (.pl <| .e 9 1 <|
 .m 9 4 <|
 .m 3 9 .done) (.ret)
@[simp] def W94_1 := C.w K94_1.eq_1
def K94_2:C:=.pl <| .e 9 1 <|
 .x 9 (.bin .add (.v 8) (.c (.int .i64 1))) <|
 .m 8 9 .done
@[simp] def W94_2 := C.w K94_2.eq_1
def K94_3:C:=.pl <| .e 9 7 <|
 .m 9 4 <|
 .m 10 5 <|
 .m 11 1 <|
 .m 12 5 <|
 .x 13 (.ia 1 (.v 11) (.v 12)) <|
 .l 14 13 <|
 .x 15 (.ia 1 (.v 9) (.v 10)) <|
 .o (.ex none (.store 1 (.v 15) (.v 14))) .done
@[simp] def W94_3 := C.w K94_3.eq_1
def K94_4:C:=.seq (.block 1 (.seq (.pl <| .e 9 2 <|
 .x 9 (.ia 1 (.v 6) (.v 8)) <|
 .l 10 9 <|
 .m 5 10 .done) K94_3)) K94_2
@[simp] def W94_4 := C.w K94_4.eq_1
def K94_5:C:=.seq (.cond 9 (.v 9) (.skip) (.exit 0)) K94_4
@[simp] def W94_5 := C.w K94_5.eq_1
def K94_6:C:=.seq (.pl <| .e 9 1 <|
 .x 9 (.bin .lss (.v 8) (.v 7)) .done) K94_5
@[simp] def W94_6 := C.w K94_6.eq_1
def K94_7:C:=.block 0 (.loop 9 [0,2,3,5] K94_6)
@[simp] def W94_7 := C.w K94_7.eq_1
def K94_8:C:=.seq (.seq (.pl <| .e 9 1 <|
 .a 9 2 <|
 .g 6 9 2 0 <|
 .x 7 (.lenV (.v 6)) <|
 .x 8 (.mv (.c (.int .i64 0))) .done) K94_7) K94_1
@[simp] def W94_8 := C.w K94_8.eq_1
def K94_9:Pl:=.m 4 11 .done
@[simp] def W94_9 := Pl.w K94_9.eq_1
def K94_10:C:=.seq (.pl <| .e 9 3 <|
 .m 9 1 <|
 .x 10 (.lenV (.v 9)) <|
 .c 11 (.mks 1 1 [.bool false] (.v 10) (.v 10)) K94_9) K94_8
@[simp] def W94_10 := C.w K94_10.eq_1
def B_impl_Automaton_begin:C:=.seq (.pl <| .e 9 0 <|
 .o (.pnew 2 (.v 0) []) <|
 .x 3 (.mv (.c (.slice none 0 0))) .done) K94_10
@[simp] def WB_impl_Automaton_begin := C.w B_impl_Automaton_begin.eq_1
def R_impl_Automaton_begin:FIR:=⟨B_impl_Automaton_begin,9,[(3,none)]⟩
theorem IR_impl_Automaton_begin:cfun Tryz.prog H_impl_Automaton_begin Tryz.f94=some R_impl_Automaton_begin:=by kernel_rfl
theorem EN_impl_Automaton_begin:ENT Tryz.prog B_impl_Automaton_begin [(3,none)] 2 9 fn_impl_Automaton_begin:=fun hargs hw=>enter Tryz.func94 rfl IR_impl_Automaton_begin hargs hw
def H_impl_Automaton_live:Hint:=⟨[(0,false),(1,true),(2,false),(3,false),(4,false),(5,false),(6,false),(7,false),(8,false),(17,false),(18,false),(24,false),(25,false),(26,false)],[[0,2,6,7,8,11,12,13],[0,2,7,8]]⟩
def K93_1:C:=.seq (.pl <| .e 14 1 <|
 .m 14 5 <|
 .m 2 14 .done) (.ret)
@[simp] def W93_1 := C.w K93_1.eq_1
def K93_2:C:=.pl <| .e 14 1 <|
 .x 14 (.bin .add (.v 10) (.c (.int .i64 1))) <|
 .m 10 14 .done
@[simp] def W93_2 := C.w K93_2.eq_1
def K93_3:C:=.pl <| .e 14 1 <|
 .x 14 (.bin .add (.v 13) (.c (.int .i64 1))) <|
 .m 13 14 .done
@[simp] def W93_3 := C.w K93_3.eq_1
def K93_4:C:=.pl <| .e 14 23 <|
 .m 14 5 <|
 .m 15 6 <|
 .m 16 5 <|
 .m 17 6 <|
 .x 18 (.ia 1 (.v 16) (.v 17)) <|
 .l 19 18 <|
 .m 20 19 <|
 .n 20 (.px (some 21) (.mv (.v 8))) <|
 .n 20 (.px (some 22) (.mv (.v 21))) <|
 .y 22 (.px (some 23) (.mv (.v 4))) <|
 .y 22 (.px (some 24) (.mv (.v 7))) <|
 .y 22 (.px (some 25) (.ia 1 (.v 23) (.v 24))) <|
 .y 22 (.ld (some 26) (.v 25) none) <|
 .n 20 (.px (some 27) (.pick (.v 22) (.v 26) (.c (.bool false)))) <|
 .n 20 (.px (some 28) (.mv (.v 27))) <|
 .y 28 (.als 29 none 1) <|
 .y 28 (.pget (some 30) (some 29) 1 1 none) <|
 .y 28 (.px (some 31) (.mv (.v 7))) <|
 .y 28 (.px (some 32) (.ia 1 (.v 30) (.v 31))) <|
 .y 28 (.ld (some 33) (.v 32) none) <|
 .n 20 (.px (some 34) (.pick (.v 28) (.v 33) (.c (.bool false)))) <|
 .x 35 (.pick (.v 20) (.c (.bool true)) (.v 34)) <|
 .x 36 (.ia 1 (.v 14) (.v 15)) <|
 .o (.ex none (.store 1 (.v 36) (.v 35))) .done
@[simp] def W93_4 := C.w K93_4.eq_1
def K93_5:C:=.seq (.block 3 (.seq (.pl <| .e 14 3 <|
 .m 14 13 <|
 .x 15 (.ia 1 (.v 11) (.v 13)) <|
 .l 16 15 <|
 .m 7 14 <|
 .m 8 16 .done) K93_4)) K93_3
@[simp] def W93_5 := C.w K93_5.eq_1
def K93_6:C:=.seq (.cond 14 (.v 14) (.skip) (.exit 2)) K93_5
@[simp] def W93_6 := C.w K93_6.eq_1
def K93_7:C:=.seq (.pl <| .e 14 1 <|
 .x 14 (.bin .lss (.v 13) (.v 12)) .done) K93_6
@[simp] def W93_7 := C.w K93_7.eq_1
def K93_8:C:=.block 2 (.loop 14 [0,2,7,8] K93_7)
@[simp] def W93_8 := C.w K93_8.eq_1
def K93_9:Pl:=.x 12 (.lenV (.v 11)) <|
 .x 13 (.mv (.c (.int .i64 0))) .done
@[simp] def W93_9 := Pl.w K93_9.eq_1
def K93_10:Pl:=.c 11 (.call fn_impl_reachable [.v 14,.v 16]) K93_9
@[simp] def W93_10 := Pl.w K93_10.eq_1
def K93_11:C:=.seq (.pl <| .e 14 3 <|
 .m 14 3 <|
 .m 15 6 <|
 .c 16 (.bls 1 1 [.int .i64 0] [(0,1,.v 15)]) K93_10) K93_8
@[simp] def W93_11 := C.w K93_11.eq_1
def K93_12:C:=.seq (.block 1 (.seq (.pl <| .e 14 1 <|
 .m 14 10 <|
 .m 6 14 .done) K93_11)) K93_2
@[simp] def W93_12 := C.w K93_12.eq_1
def K93_13:C:=.seq (.cond 14 (.v 14) (.skip) (.exit 0)) K93_12
@[simp] def W93_13 := C.w K93_13.eq_1
def K93_14:C:=.seq (.pl <| .e 14 1 <|
 .x 14 (.bin .lss (.v 10) (.v 9)) .done) K93_13
@[simp] def W93_14 := C.w K93_14.eq_1
def K93_15:C:=.block 0 (.loop 14 [0,2,6,7,8,11,12,13] K93_14)
@[simp] def W93_15 := C.w K93_15.eq_1
def K93_16:C:=.seq (.seq (.pl <| .e 14 1 <|
 .m 14 3 <|
 .x 9 (.lenV (.v 14)) <|
 .x 10 (.mv (.c (.int .i64 0))) .done) K93_15) K93_1
@[simp] def W93_16 := C.w K93_16.eq_1
def K93_17:Pl:=.m 5 16 .done
@[simp] def W93_17 := Pl.w K93_17.eq_1
def K93_18:C:=.seq (.pl <| .e 14 3 <|
 .m 14 3 <|
 .x 15 (.lenV (.v 14)) <|
 .c 16 (.mks 1 1 [.bool false] (.v 15) (.v 15)) K93_17) K93_16
@[simp] def W93_18 := C.w K93_18.eq_1
def K93_19:Pl:=.m 4 15 .done
@[simp] def W93_19 := Pl.w K93_19.eq_1
def K93_20:C:=.seq (.pl <| .e 14 2 <|
 .m 14 3 <|
 .c 15 (.call fn_impl_cyclic [.v 14]) K93_19) K93_18
@[simp] def W93_20 := C.w K93_20.eq_1
def K93_21:Pl:=.m 3 15 .done
@[simp] def W93_21 := Pl.w K93_21.eq_1
def K93_22:C:=.seq (.pl <| .e 14 2 <|
 .o (.pget (some 14) none 1 0 (some 3)) <|
 .c 15 (.call fn_impl_Automaton_next [.v 14]) K93_21) K93_20
@[simp] def W93_22 := C.w K93_22.eq_1
def B_impl_Automaton_live:C:=.seq (.pl <| .e 14 0 <|
 .o (.pnew 1 (.v 0) []) <|
 .x 2 (.mv (.c (.slice none 0 0))) .done) K93_22
@[simp] def WB_impl_Automaton_live := C.w B_impl_Automaton_live.eq_1
def R_impl_Automaton_live:FIR:=⟨B_impl_Automaton_live,14,[(2,none)]⟩
theorem IR_impl_Automaton_live:cfun Tryz.prog H_impl_Automaton_live Tryz.f93=some R_impl_Automaton_live:=by kernel_rfl
theorem EN_impl_Automaton_live:ENT Tryz.prog B_impl_Automaton_live [(2,none)] 1 14 fn_impl_Automaton_live:=fun hargs hw=>enter Tryz.func93 rfl IR_impl_Automaton_live hargs hw
def H_slices_Contains_S_bool_bool:Hint:=⟨[(0,false),(1,false),(4,false)],[]⟩
def K95_1:Pl:=.x 6 (.bin .geq (.v 5) (.c (.int .i64 0))) <|
 .m 2 6 .done
@[simp] def W95_1 := Pl.w K95_1.eq_1
def K95_2:C:=.seq (.pl <| .e 3 4 <|
 .m 3 0 <|
 .m 4 1 <|
 .c 5 (.call fn_slices_Index_S_bool_bool [.v 3,.v 4]) K95_1) (.ret)
@[simp] def W95_2 := C.w K95_2.eq_1
def B_slices_Contains_S_bool_bool:C:=.seq (.pl <| .e 3 0 <|
 .x 2 (.mv (.c (.bool false))) .done) K95_2
@[simp] def WB_slices_Contains_S_bool_bool := C.w B_slices_Contains_S_bool_bool.eq_1
def R_slices_Contains_S_bool_bool:FIR:=⟨B_slices_Contains_S_bool_bool,3,[(2,none)]⟩
theorem IR_slices_Contains_S_bool_bool:cfun Tryz.prog H_slices_Contains_S_bool_bool Tryz.f95=some R_slices_Contains_S_bool_bool:=by kernel_rfl
theorem EN_slices_Contains_S_bool_bool:ENT Tryz.prog B_slices_Contains_S_bool_bool [(2,none)] 2 3 fn_slices_Contains_S_bool_bool:=fun hargs hw=>enter Tryz.func95 rfl IR_slices_Contains_S_bool_bool hargs hw
def H_slices_Index_S_bool_bool:Hint:=⟨[(0,false),(1,false),(4,false),(5,false),(7,false),(8,false)],[[2,3]]⟩
def K156_1:C:=.seq (.pl <| .e 6 0 <|
 .x 2 (.mv (.c (.int .i64 (-1)))) .done) (.ret)
@[simp] def W156_1 := C.w K156_1.eq_1
def K156_2:C:=.pl <| .e 6 1 <|
 .x 6 (.bin .add (.v 5) (.c (.int .i64 1))) <|
 .m 5 6 .done
@[simp] def W156_2 := C.w K156_2.eq_1
def K156_3:C:=.seq (.pl <| .e 6 1 <|
 .m 6 3 <|
 .m 2 6 .done) (.ret)
@[simp] def W156_3 := C.w K156_3.eq_1
def K156_4:C:=.cond 6 (.v 11) K156_3 (.skip)
@[simp] def W156_4 := C.w K156_4.eq_1
def K156_5:C:=.seq (.pl <| .e 6 6 <|
 .m 6 1 <|
 .m 7 0 <|
 .m 8 3 <|
 .x 9 (.ia 1 (.v 7) (.v 8)) <|
 .l 10 9 <|
 .x 11 (.eqb false (.v 6) (.v 10)) .done) K156_4
@[simp] def W156_5 := C.w K156_5.eq_1
def K156_6:C:=.seq (.block 1 (.seq (.pl <| .e 6 1 <|
 .m 6 5 <|
 .m 3 6 .done) K156_5)) K156_2
@[simp] def W156_6 := C.w K156_6.eq_1
def K156_7:C:=.seq (.cond 6 (.v 6) (.skip) (.exit 0)) K156_6
@[simp] def W156_7 := C.w K156_7.eq_1
def K156_8:C:=.seq (.pl <| .e 6 1 <|
 .x 6 (.bin .lss (.v 5) (.v 4)) .done) K156_7
@[simp] def W156_8 := C.w K156_8.eq_1
def K156_9:C:=.block 0 (.loop 6 [2,3] K156_8)
@[simp] def W156_9 := C.w K156_9.eq_1
def K156_10:C:=.seq (.seq (.pl <| .e 6 1 <|
 .m 6 0 <|
 .x 4 (.lenV (.v 6)) <|
 .x 5 (.mv (.c (.int .i64 0))) .done) K156_9) K156_1
@[simp] def W156_10 := C.w K156_10.eq_1
def B_slices_Index_S_bool_bool:C:=.seq (.pl <| .e 6 0 <|
 .x 2 (.mv (.c (.int .i64 0))) .done) K156_10
@[simp] def WB_slices_Index_S_bool_bool := C.w B_slices_Index_S_bool_bool.eq_1
def R_slices_Index_S_bool_bool:FIR:=⟨B_slices_Index_S_bool_bool,6,[(2,none)]⟩
theorem IR_slices_Index_S_bool_bool:cfun Tryz.prog H_slices_Index_S_bool_bool Tryz.f156=some R_slices_Index_S_bool_bool:=by kernel_rfl
theorem EN_slices_Index_S_bool_bool:ENT Tryz.prog B_slices_Index_S_bool_bool [(2,none)] 2 6 fn_slices_Index_S_bool_bool:=fun hargs hw=>enter Tryz.func156 rfl IR_slices_Index_S_bool_bool hargs hw
def H_spec_AutomatonValid:Hint:=⟨[(0,false),(1,true),(2,false),(3,false),(4,false),(5,false)],[[0,2,5],[0,2,4]]⟩
def K149_1:C:=.seq (.pl <| .e 6 0 <|
 .x 2 (.mv (.c (.bool true))) .done) (.ret)
@[simp] def W149_1 := C.w K149_1.eq_1
def K149_2:C:=.pl <| .e 6 2 <|
 .m 6 5 <|
 .x 7 (.bin .add (.v 6) (.c (.int .i64 1))) <|
 .m 5 7 .done
@[simp] def W149_2 := C.w K149_2.eq_1
def K149_3:C:=.seq (.pl <| .e 6 0 <|
 .x 2 (.mv (.c (.bool false))) .done) (.ret)
@[simp] def W149_3 := C.w K149_3.eq_1
def K149_4:C:=.cond 6 (.v 13) K149_3 (.skip)
@[simp] def W149_4 := C.w K149_4.eq_1
def K149_5:Pl:=.x 13 (.un .not (.v 12)) .done
@[simp] def W149_5 := Pl.w K149_5.eq_1
def K149_6:C:=.seq (.block 3 (.seq (.pl <| .e 6 8 <|
 .a 6 1 <|
 .g 7 6 1 2 <|
 .m 8 5 <|
 .x 9 (.ia 4 (.v 7) (.v 8)) <|
 .o (.ld (some 10) (.v 9) (some 4)) <|
 .m 11 3 <|
 .c 12 (.call fn_spec_l7Edge [.v 10,.v 11]) K149_5) K149_4)) K149_2
@[simp] def W149_6 := C.w K149_6.eq_1
def K149_7:C:=.cond 6 (.v 10) (.skip) (.exit 2)
@[simp] def W149_7 := C.w K149_7.eq_1
def K149_8:C:=.seq (.seq (.pl <| .e 6 5 <|
 .m 6 5 <|
 .a 7 1 <|
 .g 8 7 1 2 <|
 .x 9 (.lenV (.v 8)) <|
 .x 10 (.bin .lss (.v 6) (.v 9)) .done) K149_7) K149_6
@[simp] def W149_8 := C.w K149_8.eq_1
def K149_9:C:=.block 2 (.loop 6 [0,2,4] K149_8)
@[simp] def W149_9 := C.w K149_9.eq_1
def K149_10:C:=.seq (.seq (.pl <| .e 6 0 <|
 .x 5 (.mv (.c (.int .i64 0))) .done) K149_9) K149_1
@[simp] def W149_10 := C.w K149_10.eq_1
def K149_11:C:=.pl <| .e 6 2 <|
 .m 6 4 <|
 .x 7 (.bin .add (.v 6) (.c (.int .i64 1))) <|
 .m 4 7 .done
@[simp] def W149_11 := C.w K149_11.eq_1
def K149_12:C:=.seq (.pl <| .e 6 0 <|
 .x 2 (.mv (.c (.bool false))) .done) (.ret)
@[simp] def W149_12 := C.w K149_12.eq_1
def K149_13:C:=.cond 6 (.v 38) K149_12 (.skip)
@[simp] def W149_13 := C.w K149_13.eq_1
def K149_14:C:=.seq (.block 1 (.seq (.pl <| .e 6 33 <|
 .a 6 1 <|
 .g 7 6 1 0 <|
 .m 8 4 <|
 .x 9 (.ia 1 (.v 7) (.v 8)) <|
 .l 10 9 <|
 .x 11 (.bin .lss (.v 10) (.c (.int .i64 0))) <|
 .m 12 11 <|
 .n 12 (.als 13 none 1) <|
 .n 12 (.pget (some 14) (some 13) 1 0 none) <|
 .n 12 (.px (some 15) (.mv (.v 4))) <|
 .n 12 (.px (some 16) (.ia 1 (.v 14) (.v 15))) <|
 .n 12 (.ld (some 17) (.v 16) none) <|
 .n 12 (.px (some 18) (.mv (.v 3))) <|
 .n 12 (.px (some 19) (.bin .geq (.v 17) (.v 18))) <|
 .x 20 (.pick (.v 12) (.c (.bool true)) (.v 19)) <|
 .m 21 20 <|
 .n 21 (.px (some 22) (.mv (.v 4))) <|
 .n 21 (.px (some 23) (.bin .gtr (.v 22) (.c (.int .i64 0)))) <|
 .n 21 (.px (some 24) (.mv (.v 23))) <|
 .y 24 (.als 25 none 1) <|
 .y 24 (.pget (some 26) (some 25) 1 0 none) <|
 .y 24 (.px (some 27) (.mv (.v 4))) <|
 .y 24 (.px (some 28) (.bin .sub (.v 27) (.c (.int .i64 1)))) <|
 .y 24 (.px (some 29) (.ia 1 (.v 26) (.v 28))) <|
 .y 24 (.ld (some 30) (.v 29) none) <|
 .y 24 (.als 31 none 1) <|
 .y 24 (.pget (some 32) (some 31) 1 0 none) <|
 .y 24 (.px (some 33) (.mv (.v 4))) <|
 .y 24 (.px (some 34) (.ia 1 (.v 32) (.v 33))) <|
 .y 24 (.ld (some 35) (.v 34) none) <|
 .y 24 (.px (some 36) (.bin .geq (.v 30) (.v 35))) <|
 .n 21 (.px (some 37) (.pick (.v 24) (.v 36) (.c (.bool false)))) <|
 .x 38 (.pick (.v 21) (.c (.bool true)) (.v 37)) .done) K149_13)) K149_11
@[simp] def W149_14 := C.w K149_14.eq_1
def K149_15:C:=.cond 6 (.v 10) (.skip) (.exit 0)
@[simp] def W149_15 := C.w K149_15.eq_1
def K149_16:C:=.seq (.seq (.pl <| .e 6 5 <|
 .m 6 4 <|
 .a 7 1 <|
 .g 8 7 1 0 <|
 .x 9 (.lenV (.v 8)) <|
 .x 10 (.bin .lss (.v 6) (.v 9)) .done) K149_15) K149_14
@[simp] def W149_16 := C.w K149_16.eq_1
def K149_17:C:=.block 0 (.loop 6 [0,2,5] K149_16)
@[simp] def W149_17 := C.w K149_17.eq_1
def K149_18:C:=.seq (.seq (.pl <| .e 6 0 <|
 .x 4 (.mv (.c (.int .i64 0))) .done) K149_17) K149_10
@[simp] def W149_18 := C.w K149_18.eq_1
def K149_19:C:=.seq (.pl <| .e 6 0 <|
 .x 2 (.mv (.c (.bool false))) .done) (.ret)
@[simp] def W149_19 := C.w K149_19.eq_1
def K149_20:C:=.cond 6 (.v 24) K149_19 (.skip)
@[simp] def W149_20 := C.w K149_20.eq_1
def K149_21:C:=.seq (.seq (.pl <| .e 6 19 <|
 .m 6 3 <|
 .x 7 (.bin .lss (.v 6) (.c (.int .i64 1))) <|
 .m 8 7 <|
 .n 8 (.px (some 9) (.mv (.v 3))) <|
 .n 8 (.px (some 10) (.bin .gtr (.v 9) (.c (.int .i64 64)))) <|
 .x 11 (.pick (.v 8) (.c (.bool true)) (.v 10)) <|
 .m 12 11 <|
 .n 12 (.als 13 none 1) <|
 .n 12 (.pget (some 14) (some 13) 1 0 none) <|
 .n 12 (.px (some 15) (.lenV (.v 14))) <|
 .n 12 (.px (some 16) (.mv (.v 3))) <|
 .n 12 (.px (some 17) (.bin .gtr (.v 15) (.v 16))) <|
 .x 18 (.pick (.v 12) (.c (.bool true)) (.v 17)) <|
 .m 19 18 <|
 .n 19 (.als 20 none 1) <|
 .n 19 (.pget (some 21) (some 20) 1 2 none) <|
 .n 19 (.px (some 22) (.lenV (.v 21))) <|
 .n 19 (.px (some 23) (.bin .gtr (.v 22) (.c (.int .i64 2048)))) <|
 .x 24 (.pick (.v 19) (.c (.bool true)) (.v 23)) .done) K149_20) K149_18
@[simp] def W149_21 := C.w K149_21.eq_1
def K149_22:C:=.seq (.pl <| .e 6 3 <|
 .a 6 1 <|
 .g 7 6 1 1 <|
 .x 8 (.lenV (.v 7)) <|
 .m 3 8 .done) K149_21
@[simp] def W149_22 := C.w K149_22.eq_1
def B_spec_AutomatonValid:C:=.seq (.pl <| .e 6 0 <|
 .o (.pnew 1 (.v 0) []) <|
 .x 2 (.mv (.c (.bool false))) .done) K149_22
@[simp] def WB_spec_AutomatonValid := C.w B_spec_AutomatonValid.eq_1
def R_spec_AutomatonValid:FIR:=⟨B_spec_AutomatonValid,6,[(2,none)]⟩
theorem IR_spec_AutomatonValid:cfun Tryz.prog H_spec_AutomatonValid Tryz.f149=some R_spec_AutomatonValid:=by kernel_rfl
theorem EN_spec_AutomatonValid:ENT Tryz.prog B_spec_AutomatonValid [(2,none)] 1 6 fn_spec_AutomatonValid:=fun hargs hw=>enter Tryz.func149 rfl IR_spec_AutomatonValid hargs hw
def H_spec_LiveStates:Hint:=⟨[(0,false),(1,true),(2,false),(3,false),(4,false),(5,false),(6,false),(7,false),(8,false)],[[0,2,6,7,8],[0,2]]⟩
def K89_1:C:=.seq (.pl <| .e 9 1 <|
 .m 9 3 <|
 .m 2 9 .done) (.ret)
@[simp] def W89_1 := C.w K89_1.eq_1
def K89_2:C:=.pl <| .e 9 2 <|
 .m 9 5 <|
 .x 10 (.bin .add (.v 9) (.c (.int .i64 1))) <|
 .m 5 10 .done
@[simp] def W89_2 := C.w K89_2.eq_1
def K89_3:Pl:=.m 3 12 .done
@[simp] def W89_3 := Pl.w K89_3.eq_1
def K89_4:C:=.pl <| .e 9 4 <|
 .m 9 3 <|
 .m 10 7 <|
 .o (.psl 11 [.bool false] [(0,1,.v 10)]) <|
 .c 12 (.app 1 1 [.bool false] (.o (.v 9)) (.p 1 11)) K89_3
@[simp] def W89_4 := C.w K89_4.eq_1
def K89_5:C:=.pl <| .e 9 2 <|
 .m 9 8 <|
 .x 10 (.bin .add (.v 9) (.c (.int .i64 1))) <|
 .m 8 10 .done
@[simp] def W89_5 := C.w K89_5.eq_1
def K89_6:Pl:=.x 24 (.pick (.v 17) (.v 23) (.c (.bool false))) <|
 .m 7 24 .done
@[simp] def W89_6 := Pl.w K89_6.eq_1
def K89_7:C:=.seq (.block 3 (.pl <| .e 9 16 <|
 .a 9 1 <|
 .g 10 9 1 1 <|
 .m 11 6 <|
 .m 12 8 <|
 .x 13 (.ia 1 (.v 11) (.v 12)) <|
 .l 14 13 <|
 .x 15 (.ia 1 (.v 10) (.v 14)) <|
 .l 16 15 <|
 .m 17 16 <|
 .y 17 (.px (some 18) (.mv (.v 4))) <|
 .y 17 (.px (some 19) (.mv (.v 6))) <|
 .y 17 (.px (some 20) (.mv (.v 8))) <|
 .y 17 (.px (some 21) (.ia 1 (.v 19) (.v 20))) <|
 .y 17 (.ld (some 22) (.v 21) none) <|
 .st (.act (some (.v 17,true)) (.ex (some 23) (.call fn_spec_l7Loop [.v 18,.v 22]))) K89_6)) K89_5
@[simp] def W89_7 := C.w K89_7.eq_1
def K89_8:C:=.cond 9 (.v 16) (.skip) (.exit 2)
@[simp] def W89_8 := C.w K89_8.eq_1
def K89_9:C:=.seq (.seq (.pl <| .e 9 8 <|
 .m 9 8 <|
 .m 10 6 <|
 .x 11 (.lenV (.v 10)) <|
 .x 12 (.bin .lss (.v 9) (.v 11)) <|
 .m 13 12 <|
 .y 13 (.px (some 14) (.mv (.v 7))) <|
 .y 13 (.px (some 15) (.un .not (.v 14))) <|
 .x 16 (.pick (.v 13) (.v 15) (.c (.bool false))) .done) K89_8) K89_7
@[simp] def W89_9 := C.w K89_9.eq_1
def K89_10:C:=.block 2 (.loop 9 [0,2] K89_9)
@[simp] def W89_10 := C.w K89_10.eq_1
def K89_11:C:=.seq (.seq (.pl <| .e 9 0 <|
 .x 8 (.mv (.c (.int .i64 0))) .done) K89_10) K89_4
@[simp] def W89_11 := C.w K89_11.eq_1
def K89_12:C:=.seq (.pl <| .e 9 0 <|
 .x 7 (.mv (.c (.bool false))) .done) K89_11
@[simp] def W89_12 := C.w K89_12.eq_1
def K89_13:Pl:=.m 6 12 .done
@[simp] def W89_13 := Pl.w K89_13.eq_1
def K89_14:Pl:=.c 12 (.call fn_spec_l7Reach [.v 9,.v 11]) K89_13
@[simp] def W89_14 := Pl.w K89_14.eq_1
def K89_15:C:=.seq (.block 1 (.seq (.pl <| .e 9 4 <|
 .m 9 4 <|
 .m 10 5 <|
 .c 11 (.bls 1 1 [.int .i64 0] [(0,1,.v 10)]) K89_14) K89_12)) K89_2
@[simp] def W89_15 := C.w K89_15.eq_1
def K89_16:C:=.cond 9 (.v 13) (.skip) (.exit 0)
@[simp] def W89_16 := C.w K89_16.eq_1
def K89_17:C:=.seq (.seq (.pl <| .e 9 5 <|
 .m 9 5 <|
 .a 10 1 <|
 .g 11 10 1 1 <|
 .x 12 (.lenV (.v 11)) <|
 .x 13 (.bin .lss (.v 9) (.v 12)) .done) K89_16) K89_15
@[simp] def W89_17 := C.w K89_17.eq_1
def K89_18:C:=.block 0 (.loop 9 [0,2,6,7,8] K89_17)
@[simp] def W89_18 := C.w K89_18.eq_1
def K89_19:C:=.seq (.seq (.pl <| .e 9 0 <|
 .x 5 (.mv (.c (.int .i64 0))) .done) K89_18) K89_1
@[simp] def W89_19 := C.w K89_19.eq_1
def K89_20:Pl:=.m 4 10 .done
@[simp] def W89_20 := Pl.w K89_20.eq_1
def K89_21:C:=.seq (.pl <| .e 9 2 <|
 .o (.pget (some 9) none 1 0 (some 3)) <|
 .c 10 (.call fn_spec_l7Next [.v 9]) K89_20) K89_19
@[simp] def W89_21 := C.w K89_21.eq_1
def K89_22:C:=.seq (.pl <| .e 9 1 <|
 .m 9 3 <|
 .m 2 9 .done) (.ret)
@[simp] def W89_22 := C.w K89_22.eq_1
def K89_23:C:=.cond 9 (.v 11) K89_22 (.skip)
@[simp] def W89_23 := C.w K89_23.eq_1
def K89_24:Pl:=.x 11 (.un .not (.v 10)) .done
@[simp] def W89_24 := Pl.w K89_24.eq_1
def K89_25:C:=.seq (.seq (.pl <| .e 9 3 <|
 .o (.pget (some 9) none 1 0 (some 3)) <|
 .c 10 (.call fn_spec_AutomatonValid [.v 9]) K89_24) K89_23) K89_21
@[simp] def W89_25 := C.w K89_25.eq_1
def K89_26:Pl:=.m 3 9 .done
@[simp] def W89_26 := Pl.w K89_26.eq_1
def K89_27:C:=.seq (.pl <| .e 9 1 <|
 .c 9 (.bls 1 0 [.bool false] []) K89_26) K89_25
@[simp] def W89_27 := C.w K89_27.eq_1
def B_spec_LiveStates:C:=.seq (.pl <| .e 9 0 <|
 .o (.pnew 1 (.v 0) []) <|
 .x 2 (.mv (.c (.slice none 0 0))) .done) K89_27
@[simp] def WB_spec_LiveStates := C.w B_spec_LiveStates.eq_1
def R_spec_LiveStates:FIR:=⟨B_spec_LiveStates,9,[(2,none)]⟩
theorem IR_spec_LiveStates:cfun Tryz.prog H_spec_LiveStates Tryz.f89=some R_spec_LiveStates:=by kernel_rfl
theorem EN_spec_LiveStates:ENT Tryz.prog B_spec_LiveStates [(2,none)] 1 9 fn_spec_LiveStates:=fun hargs hw=>enter Tryz.func89 rfl IR_spec_LiveStates hargs hw
def H_spec_l10Sorted:Hint:=⟨[(0,false),(1,false),(4,false),(5,false),(6,false),(7,false)],[[2]]⟩
def K155_1:C:=.seq (.pl <| .e 6 1 <|
 .m 6 3 <|
 .m 2 6 .done) (.ret)
@[simp] def W155_1 := C.w K155_1.eq_1
def K155_2:Pl:=.m 3 9 .done
@[simp] def W155_2 := Pl.w K155_2.eq_1
def K155_3:C:=.pl <| .e 6 4 <|
 .m 6 3 <|
 .m 7 1 <|
 .o (.psl 8 [.int .i64 0] [(0,1,.v 7)]) <|
 .c 9 (.app 8 1 [.int .i64 0] (.o (.v 6)) (.p 1 8)) K155_2
@[simp] def W155_3 := C.w K155_3.eq_1
def K155_4:C:=.cond 6 (.v 7) K155_3 (.skip)
@[simp] def W155_4 := C.w K155_4.eq_1
def K155_5:C:=.seq (.seq (.pl <| .e 6 2 <|
 .m 6 4 <|
 .x 7 (.un .not (.v 6)) .done) K155_4) K155_1
@[simp] def W155_5 := C.w K155_5.eq_1
def K155_6:C:=.pl <| .e 6 2 <|
 .m 6 5 <|
 .x 7 (.bin .add (.v 6) (.c (.int .i64 1))) <|
 .m 5 7 .done
@[simp] def W155_6 := C.w K155_6.eq_1
def K155_7:Pl:=.m 3 12 .done
@[simp] def W155_7 := Pl.w K155_7.eq_1
def K155_8:C:=.pl <| .e 6 7 <|
 .m 6 3 <|
 .m 7 0 <|
 .m 8 5 <|
 .x 9 (.ia 1 (.v 7) (.v 8)) <|
 .l 10 9 <|
 .o (.psl 11 [.int .i64 0] [(0,1,.v 10)]) <|
 .c 12 (.app 8 1 [.int .i64 0] (.o (.v 6)) (.p 1 11)) K155_7
@[simp] def W155_8 := C.w K155_8.eq_1
def K155_9:C:=.pl <| .e 6 0 <|
 .x 4 (.mv (.c (.bool true))) .done
@[simp] def W155_9 := C.w K155_9.eq_1
def K155_10:Pl:=.m 3 9 .done
@[simp] def W155_10 := Pl.w K155_10.eq_1
def K155_11:C:=.seq (.pl <| .e 6 4 <|
 .m 6 3 <|
 .m 7 1 <|
 .o (.psl 8 [.int .i64 0] [(0,1,.v 7)]) <|
 .c 9 (.app 8 1 [.int .i64 0] (.o (.v 6)) (.p 1 8)) K155_10) K155_9
@[simp] def W155_11 := C.w K155_11.eq_1
def K155_12:C:=.cond 6 (.v 15) K155_11 (.skip)
@[simp] def W155_12 := C.w K155_12.eq_1
def K155_13:C:=.seq (.seq (.pl <| .e 6 10 <|
 .m 6 0 <|
 .m 7 5 <|
 .x 8 (.ia 1 (.v 6) (.v 7)) <|
 .l 9 8 <|
 .m 10 1 <|
 .x 11 (.bin .gtr (.v 9) (.v 10)) <|
 .m 12 11 <|
 .y 12 (.px (some 13) (.mv (.v 4))) <|
 .y 12 (.px (some 14) (.un .not (.v 13))) <|
 .x 15 (.pick (.v 12) (.v 14) (.c (.bool false))) .done) K155_12) K155_8
@[simp] def W155_13 := C.w K155_13.eq_1
def K155_14:C:=.seq (.pl <| .e 6 1 <|
 .m 6 0 <|
 .m 2 6 .done) (.ret)
@[simp] def W155_14 := C.w K155_14.eq_1
def K155_15:C:=.cond 6 (.v 11) K155_14 (.skip)
@[simp] def W155_15 := C.w K155_15.eq_1
def K155_16:C:=.seq (.block 1 (.seq (.seq (.pl <| .e 6 6 <|
 .m 6 0 <|
 .m 7 5 <|
 .x 8 (.ia 1 (.v 6) (.v 7)) <|
 .l 9 8 <|
 .m 10 1 <|
 .x 11 (.bin .eql (.v 9) (.v 10)) .done) K155_15) K155_13)) K155_6
@[simp] def W155_16 := C.w K155_16.eq_1
def K155_17:C:=.cond 6 (.v 9) (.skip) (.exit 0)
@[simp] def W155_17 := C.w K155_17.eq_1
def K155_18:C:=.seq (.seq (.pl <| .e 6 4 <|
 .m 6 5 <|
 .m 7 0 <|
 .x 8 (.lenV (.v 7)) <|
 .x 9 (.bin .lss (.v 6) (.v 8)) .done) K155_17) K155_16
@[simp] def W155_18 := C.w K155_18.eq_1
def K155_19:C:=.block 0 (.loop 6 [2] K155_18)
@[simp] def W155_19 := C.w K155_19.eq_1
def K155_20:C:=.seq (.seq (.pl <| .e 6 0 <|
 .x 5 (.mv (.c (.int .i64 0))) .done) K155_19) K155_5
@[simp] def W155_20 := C.w K155_20.eq_1
def K155_21:C:=.seq (.pl <| .e 6 0 <|
 .x 4 (.mv (.c (.bool false))) .done) K155_20
@[simp] def W155_21 := C.w K155_21.eq_1
def K155_22:Pl:=.m 3 6 .done
@[simp] def W155_22 := Pl.w K155_22.eq_1
def K155_23:C:=.seq (.pl <| .e 6 1 <|
 .c 6 (.bls 1 0 [.int .i64 0] []) K155_22) K155_21
@[simp] def W155_23 := C.w K155_23.eq_1
def B_spec_l10Sorted:C:=.seq (.pl <| .e 6 0 <|
 .x 2 (.mv (.c (.slice none 0 0))) .done) K155_23
@[simp] def WB_spec_l10Sorted := C.w B_spec_l10Sorted.eq_1
def R_spec_l10Sorted:FIR:=⟨B_spec_l10Sorted,6,[(2,none)]⟩
theorem IR_spec_l10Sorted:cfun Tryz.prog H_spec_l10Sorted Tryz.f155=some R_spec_l10Sorted:=by kernel_rfl
theorem EN_spec_l10Sorted:ENT Tryz.prog B_spec_l10Sorted [(2,none)] 2 6 fn_spec_l10Sorted:=fun hargs hw=>enter Tryz.func155 rfl IR_spec_l10Sorted hargs hw
def H_spec_l12Only:Hint:=⟨[(0,false),(1,false),(4,false),(5,false),(6,false)],[[2]]⟩
def K90_1:C:=.seq (.pl <| .e 5 1 <|
 .m 5 3 <|
 .m 2 5 .done) (.ret)
@[simp] def W90_1 := C.w K90_1.eq_1
def K90_2:C:=.pl <| .e 5 2 <|
 .m 5 4 <|
 .x 6 (.bin .add (.v 5) (.c (.int .i64 1))) <|
 .m 4 6 .done
@[simp] def W90_2 := C.w K90_2.eq_1
def K90_3:Pl:=.m 3 11 .done
@[simp] def W90_3 := Pl.w K90_3.eq_1
def K90_4:C:=.pl <| .e 5 7 <|
 .m 5 3 <|
 .m 6 0 <|
 .m 7 4 <|
 .x 8 (.ia 1 (.v 6) (.v 7)) <|
 .l 9 8 <|
 .o (.psl 10 [.int .i64 0] [(0,1,.v 9)]) <|
 .c 11 (.app 8 1 [.int .i64 0] (.o (.v 5)) (.p 1 10)) K90_3
@[simp] def W90_4 := C.w K90_4.eq_1
def K90_5:C:=.cond 5 (.v 11) K90_4 (.skip)
@[simp] def W90_5 := C.w K90_5.eq_1
def K90_6:C:=.seq (.block 1 (.seq (.pl <| .e 5 7 <|
 .m 5 1 <|
 .m 6 0 <|
 .m 7 4 <|
 .x 8 (.ia 1 (.v 6) (.v 7)) <|
 .l 9 8 <|
 .x 10 (.ia 1 (.v 5) (.v 9)) <|
 .l 11 10 .done) K90_5)) K90_2
@[simp] def W90_6 := C.w K90_6.eq_1
def K90_7:C:=.cond 5 (.v 8) (.skip) (.exit 0)
@[simp] def W90_7 := C.w K90_7.eq_1
def K90_8:C:=.seq (.seq (.pl <| .e 5 4 <|
 .m 5 4 <|
 .m 6 0 <|
 .x 7 (.lenV (.v 6)) <|
 .x 8 (.bin .lss (.v 5) (.v 7)) .done) K90_7) K90_6
@[simp] def W90_8 := C.w K90_8.eq_1
def K90_9:C:=.block 0 (.loop 5 [2] K90_8)
@[simp] def W90_9 := C.w K90_9.eq_1
def K90_10:C:=.seq (.seq (.pl <| .e 5 0 <|
 .x 4 (.mv (.c (.int .i64 0))) .done) K90_9) K90_1
@[simp] def W90_10 := C.w K90_10.eq_1
def K90_11:Pl:=.m 3 5 .done
@[simp] def W90_11 := Pl.w K90_11.eq_1
def K90_12:C:=.seq (.pl <| .e 5 1 <|
 .c 5 (.bls 1 0 [.int .i64 0] []) K90_11) K90_10
@[simp] def W90_12 := C.w K90_12.eq_1
def B_spec_l12Only:C:=.seq (.pl <| .e 5 0 <|
 .x 2 (.mv (.c (.slice none 0 0))) .done) K90_12
@[simp] def WB_spec_l12Only := C.w B_spec_l12Only.eq_1
def R_spec_l12Only:FIR:=⟨B_spec_l12Only,5,[(2,none)]⟩
theorem IR_spec_l12Only:cfun Tryz.prog H_spec_l12Only Tryz.f90=some R_spec_l12Only:=by kernel_rfl
theorem EN_spec_l12Only:ENT Tryz.prog B_spec_l12Only [(2,none)] 2 5 fn_spec_l12Only:=fun hargs hw=>enter Tryz.func90 rfl IR_spec_l12Only hargs hw
def H_spec_l12Step:Hint:=⟨[(0,false),(1,false),(2,false),(3,true),(6,false),(7,false),(8,false)],[[0,4]]⟩
def K91_1:C:=.seq (.pl <| .e 7 1 <|
 .m 7 5 <|
 .m 4 7 .done) (.ret)
@[simp] def W91_1 := C.w K91_1.eq_1
def K91_2:C:=.pl <| .e 7 2 <|
 .m 7 6 <|
 .x 8 (.bin .add (.v 7) (.c (.int .i64 1))) <|
 .m 6 8 .done
@[simp] def W91_2 := C.w K91_2.eq_1
def K91_3:Pl:=.m 5 14 .done
@[simp] def W91_3 := Pl.w K91_3.eq_1
def K91_4:C:=.pl <| .e 7 8 <|
 .m 7 5 <|
 .a 8 3 <|
 .g 9 8 3 2 <|
 .m 10 6 <|
 .x 11 (.ia 4 (.v 9) (.v 10)) <|
 .x 12 (.fa 3 (.v 11)) <|
 .l 13 12 <|
 .c 14 (.call fn_spec_l10Sorted [.v 7,.v 13]) K91_3
@[simp] def W91_4 := C.w K91_4.eq_1
def K91_5:C:=.cond 7 (.v 23) K91_4 (.skip)
@[simp] def W91_5 := C.w K91_5.eq_1
def K91_6:Pl:=.x 23 (.pick (.v 15) (.v 22) (.c (.bool false))) .done
@[simp] def W91_6 := Pl.w K91_6.eq_1
def K91_7:Pl:=.m 15 14 <|
 .y 15 (.als 16 none 3) <|
 .y 15 (.pget (some 17) (some 16) 3 2 none) <|
 .y 15 (.px (some 18) (.mv (.v 6))) <|
 .y 15 (.px (some 19) (.ia 4 (.v 17) (.v 18))) <|
 .y 15 (.ld (some 20) (.v 19) (some 4)) <|
 .y 15 (.px (some 21) (.mv (.v 2))) <|
 .st (.act (some (.v 15,true)) (.ex (some 22) (.call fn_spec_l7On [.v 20,.v 21]))) K91_6
@[simp] def W91_7 := Pl.w K91_7.eq_1
def K91_8:C:=.seq (.block 1 (.seq (.pl <| .e 7 17 <|
 .m 7 1 <|
 .a 8 3 <|
 .g 9 8 3 2 <|
 .m 10 6 <|
 .x 11 (.ia 4 (.v 9) (.v 10)) <|
 .x 12 (.fa 0 (.v 11)) <|
 .l 13 12 <|
 .c 14 (.call fn_spec_l4In [.v 7,.v 13]) K91_7) K91_5)) K91_2
@[simp] def W91_8 := C.w K91_8.eq_1
def K91_9:C:=.cond 7 (.v 11) (.skip) (.exit 0)
@[simp] def W91_9 := C.w K91_9.eq_1
def K91_10:C:=.seq (.seq (.pl <| .e 7 5 <|
 .m 7 6 <|
 .a 8 3 <|
 .g 9 8 3 2 <|
 .x 10 (.lenV (.v 9)) <|
 .x 11 (.bin .lss (.v 7) (.v 10)) .done) K91_9) K91_8
@[simp] def W91_10 := C.w K91_10.eq_1
def K91_11:C:=.block 0 (.loop 7 [0,4] K91_10)
@[simp] def W91_11 := C.w K91_11.eq_1
def K91_12:C:=.seq (.seq (.pl <| .e 7 0 <|
 .x 6 (.mv (.c (.int .i64 0))) .done) K91_11) K91_1
@[simp] def W91_12 := C.w K91_12.eq_1
def K91_13:Pl:=.m 5 7 .done
@[simp] def W91_13 := Pl.w K91_13.eq_1
def K91_14:C:=.seq (.pl <| .e 7 1 <|
 .c 7 (.bls 1 0 [.int .i64 0] []) K91_13) K91_12
@[simp] def W91_14 := C.w K91_14.eq_1
def B_spec_l12Step:C:=.seq (.pl <| .e 7 0 <|
 .o (.pnew 3 (.v 0) []) <|
 .x 4 (.mv (.c (.slice none 0 0))) .done) K91_14
@[simp] def WB_spec_l12Step := C.w B_spec_l12Step.eq_1
def R_spec_l12Step:FIR:=⟨B_spec_l12Step,7,[(4,none)]⟩
theorem IR_spec_l12Step:cfun Tryz.prog H_spec_l12Step Tryz.f91=some R_spec_l12Step:=by kernel_rfl
theorem EN_spec_l12Step:ENT Tryz.prog B_spec_l12Step [(4,none)] 3 7 fn_spec_l12Step:=fun hargs hw=>enter Tryz.func91 rfl IR_spec_l12Step hargs hw
def H_spec_l4In:Hint:=⟨[(0,false),(1,false),(4,false),(5,false)],[[2]]⟩
def K153_1:C:=.seq (.pl <| .e 4 0 <|
 .x 2 (.mv (.c (.bool false))) .done) (.ret)
@[simp] def W153_1 := C.w K153_1.eq_1
def K153_2:C:=.pl <| .e 4 2 <|
 .m 4 3 <|
 .x 5 (.bin .add (.v 4) (.c (.int .i64 1))) <|
 .m 3 5 .done
@[simp] def W153_2 := C.w K153_2.eq_1
def K153_3:C:=.seq (.pl <| .e 4 0 <|
 .x 2 (.mv (.c (.bool true))) .done) (.ret)
@[simp] def W153_3 := C.w K153_3.eq_1
def K153_4:C:=.cond 4 (.v 9) K153_3 (.skip)
@[simp] def W153_4 := C.w K153_4.eq_1
def K153_5:C:=.seq (.block 1 (.seq (.pl <| .e 4 6 <|
 .m 4 0 <|
 .m 5 3 <|
 .x 6 (.ia 1 (.v 4) (.v 5)) <|
 .l 7 6 <|
 .m 8 1 <|
 .x 9 (.bin .eql (.v 7) (.v 8)) .done) K153_4)) K153_2
@[simp] def W153_5 := C.w K153_5.eq_1
def K153_6:C:=.cond 4 (.v 7) (.skip) (.exit 0)
@[simp] def W153_6 := C.w K153_6.eq_1
def K153_7:C:=.seq (.seq (.pl <| .e 4 4 <|
 .m 4 3 <|
 .m 5 0 <|
 .x 6 (.lenV (.v 5)) <|
 .x 7 (.bin .lss (.v 4) (.v 6)) .done) K153_6) K153_5
@[simp] def W153_7 := C.w K153_7.eq_1
def K153_8:C:=.block 0 (.loop 4 [2] K153_7)
@[simp] def W153_8 := C.w K153_8.eq_1
def K153_9:C:=.seq (.seq (.pl <| .e 4 0 <|
 .x 3 (.mv (.c (.int .i64 0))) .done) K153_8) K153_1
@[simp] def W153_9 := C.w K153_9.eq_1
def B_spec_l4In:C:=.seq (.pl <| .e 4 0 <|
 .x 2 (.mv (.c (.bool false))) .done) K153_9
@[simp] def WB_spec_l4In := C.w B_spec_l4In.eq_1
def R_spec_l4In:FIR:=⟨B_spec_l4In,4,[(2,none)]⟩
theorem IR_spec_l4In:cfun Tryz.prog H_spec_l4In Tryz.f153=some R_spec_l4In:=by kernel_rfl
theorem EN_spec_l4In:ENT Tryz.prog B_spec_l4In [(2,none)] 2 4 fn_spec_l4In:=fun hargs hw=>enter Tryz.func153 rfl IR_spec_l4In hargs hw
def H_spec_l7Edge:Hint:=⟨[(0,false),(1,false),(2,true),(4,false)],[]⟩
def K190_1:C:=.seq (.pl <| .e 4 45 <|
 .a 4 2 <|
 .g 5 4 2 0 <|
 .x 6 (.bin .geq (.v 5) (.c (.int .i64 0))) <|
 .m 7 6 <|
 .y 7 (.als 8 none 2) <|
 .y 7 (.pget (some 9) (some 8) 2 0 none) <|
 .y 7 (.px (some 10) (.mv (.v 1))) <|
 .y 7 (.px (some 11) (.bin .lss (.v 9) (.v 10))) <|
 .x 12 (.pick (.v 7) (.v 11) (.c (.bool false))) <|
 .m 13 12 <|
 .y 13 (.als 14 none 2) <|
 .y 13 (.pget (some 15) (some 14) 2 3 none) <|
 .y 13 (.px (some 16) (.bin .geq (.v 15) (.c (.int .i64 0)))) <|
 .x 17 (.pick (.v 13) (.v 16) (.c (.bool false))) <|
 .m 18 17 <|
 .y 18 (.als 19 none 2) <|
 .y 18 (.pget (some 20) (some 19) 2 3 none) <|
 .y 18 (.px (some 21) (.mv (.v 1))) <|
 .y 18 (.px (some 22) (.bin .lss (.v 20) (.v 21))) <|
 .x 23 (.pick (.v 18) (.v 22) (.c (.bool false))) <|
 .m 24 23 <|
 .y 24 (.als 25 none 2) <|
 .y 24 (.pget (some 26) (some 25) 2 1 none) <|
 .y 24 (.px (some 27) (.bin .geq (.v 26) (.c (.int .i64 0)))) <|
 .x 28 (.pick (.v 24) (.v 27) (.c (.bool false))) <|
 .m 29 28 <|
 .y 29 (.als 30 none 2) <|
 .y 29 (.pget (some 31) (some 30) 2 1 none) <|
 .y 29 (.px (some 32) (.bin .leq (.v 31) (.c (.int .i64 7)))) <|
 .x 33 (.pick (.v 29) (.v 32) (.c (.bool false))) <|
 .m 34 33 <|
 .y 34 (.als 35 none 2) <|
 .y 34 (.pget (some 36) (some 35) 2 2 none) <|
 .y 34 (.px (some 37) (.bin .geq (.v 36) (.c (.int .i64 0)))) <|
 .x 38 (.pick (.v 34) (.v 37) (.c (.bool false))) <|
 .m 39 38 <|
 .y 39 (.als 40 none 2) <|
 .y 39 (.pget (some 41) (some 40) 2 2 none) <|
 .y 39 (.als 42 none 2) <|
 .y 39 (.pget (some 43) (some 42) 2 1 none) <|
 .y 39 (.px (some 44) (.bin .and (.v 41) (.v 43))) <|
 .y 39 (.als 45 none 2) <|
 .y 39 (.pget (some 46) (some 45) 2 2 none) <|
 .y 39 (.px (some 47) (.bin .eql (.v 44) (.v 46))) <|
 .x 48 (.pick (.v 39) (.v 47) (.c (.bool false))) <|
 .m 3 48 .done) (.ret)
@[simp] def W190_1 := C.w K190_1.eq_1
def B_spec_l7Edge:C:=.seq (.pl <| .e 4 0 <|
 .o (.pnew 2 (.v 0) []) <|
 .x 3 (.mv (.c (.bool false))) .done) K190_1
@[simp] def WB_spec_l7Edge := C.w B_spec_l7Edge.eq_1
def R_spec_l7Edge:FIR:=⟨B_spec_l7Edge,4,[(3,none)]⟩
theorem IR_spec_l7Edge:cfun Tryz.prog H_spec_l7Edge Tryz.f190=some R_spec_l7Edge:=by kernel_rfl
theorem EN_spec_l7Edge:ENT Tryz.prog B_spec_l7Edge [(3,none)] 2 4 fn_spec_l7Edge:=fun hargs hw=>enter Tryz.func190 rfl IR_spec_l7Edge hargs hw
def H_spec_l7Loop:Hint:=⟨[(0,false),(1,false),(4,false),(5,false),(6,false),(7,false),(8,false),(9,false)],[[2,4,5,6,7],[2,3,7]]⟩
def K152_1:C:=.seq (.pl <| .e 8 0 <|
 .x 2 (.mv (.c (.bool false))) .done) (.ret)
@[simp] def W152_1 := C.w K152_1.eq_1
def K152_2:C:=.pl <| .e 8 2 <|
 .m 8 6 <|
 .x 9 (.bin .add (.v 8) (.c (.int .i64 1))) <|
 .m 6 9 .done
@[simp] def W152_2 := C.w K152_2.eq_1
def K152_3:Pl:=.m 5 13 .done
@[simp] def W152_3 := Pl.w K152_3.eq_1
def K152_4:C:=.pl <| .e 8 6 <|
 .m 8 5 <|
 .m 9 0 <|
 .m 10 7 <|
 .x 11 (.ia 1 (.v 9) (.v 10)) <|
 .l 12 11 <|
 .c 13 (.app 8 1 [.int .i64 0] (.o (.v 8)) (.o (.v 12))) K152_3
@[simp] def W152_4 := C.w K152_4.eq_1
def K152_5:C:=.seq (.pl <| .e 8 3 <|
 .m 8 4 <|
 .m 9 7 <|
 .x 10 (.ia 1 (.v 8) (.v 9)) <|
 .o (.ex none (.store 1 (.v 10) (.c (.bool true)))) .done) K152_4
@[simp] def W152_5 := C.w K152_5.eq_1
def K152_6:C:=.cond 8 (.v 12) K152_5 (.skip)
@[simp] def W152_6 := C.w K152_6.eq_1
def K152_7:C:=.seq (.pl <| .e 8 5 <|
 .m 8 4 <|
 .m 9 7 <|
 .x 10 (.ia 1 (.v 8) (.v 9)) <|
 .l 11 10 <|
 .x 12 (.un .not (.v 11)) .done) K152_6
@[simp] def W152_7 := C.w K152_7.eq_1
def K152_8:C:=.seq (.pl <| .e 8 0 <|
 .x 2 (.mv (.c (.bool true))) .done) (.ret)
@[simp] def W152_8 := C.w K152_8.eq_1
def K152_9:C:=.cond 8 (.v 10) K152_8 (.skip)
@[simp] def W152_9 := C.w K152_9.eq_1
def K152_10:C:=.seq (.seq (.pl <| .e 8 3 <|
 .m 8 7 <|
 .m 9 1 <|
 .x 10 (.bin .eql (.v 8) (.v 9)) .done) K152_9) K152_7
@[simp] def W152_10 := C.w K152_10.eq_1
def K152_11:C:=.seq (.block 3 (.seq (.pl <| .e 8 4 <|
 .m 8 5 <|
 .m 9 6 <|
 .x 10 (.ia 1 (.v 8) (.v 9)) <|
 .l 11 10 <|
 .m 7 11 .done) K152_10)) K152_2
@[simp] def W152_11 := C.w K152_11.eq_1
def K152_12:C:=.cond 8 (.v 11) (.skip) (.exit 2)
@[simp] def W152_12 := C.w K152_12.eq_1
def K152_13:C:=.seq (.seq (.pl <| .e 8 4 <|
 .m 8 6 <|
 .m 9 5 <|
 .x 10 (.lenV (.v 9)) <|
 .x 11 (.bin .lss (.v 8) (.v 10)) .done) K152_12) K152_11
@[simp] def W152_13 := C.w K152_13.eq_1
def K152_14:C:=.block 2 (.loop 8 [2,3,7] K152_13)
@[simp] def W152_14 := C.w K152_14.eq_1
def K152_15:C:=.seq (.seq (.pl <| .e 8 0 <|
 .x 6 (.mv (.c (.int .i64 0))) .done) K152_14) K152_1
@[simp] def W152_15 := C.w K152_15.eq_1
def K152_16:Pl:=.m 5 13 .done
@[simp] def W152_16 := Pl.w K152_16.eq_1
def K152_17:C:=.seq (.pl <| .e 8 6 <|
 .o (.psl 8 [] []) <|
 .m 9 0 <|
 .m 10 1 <|
 .x 11 (.ia 1 (.v 9) (.v 10)) <|
 .l 12 11 <|
 .c 13 (.app 8 1 [.int .i64 0] (.p 0 8) (.o (.v 12))) K152_16) K152_15
@[simp] def W152_17 := C.w K152_17.eq_1
def K152_18:Pl:=.m 4 10 .done
@[simp] def W152_18 := Pl.w K152_18.eq_1
def K152_19:C:=.seq (.pl <| .e 8 3 <|
 .m 8 0 <|
 .x 9 (.lenV (.v 8)) <|
 .c 10 (.mks 1 1 [.bool false] (.v 9) (.v 9)) K152_18) K152_17
@[simp] def W152_19 := C.w K152_19.eq_1
def K152_20:C:=.pl <| .e 8 2 <|
 .m 8 3 <|
 .x 9 (.bin .add (.v 8) (.c (.int .i64 1))) <|
 .m 3 9 .done
@[simp] def W152_20 := C.w K152_20.eq_1
def K152_21:C:=.seq (.pl <| .e 8 0 <|
 .x 2 (.mv (.c (.bool true))) .done) (.ret)
@[simp] def W152_21 := C.w K152_21.eq_1
def K152_22:C:=.cond 8 (.v 16) K152_21 (.skip)
@[simp] def W152_22 := C.w K152_22.eq_1
def K152_23:C:=.seq (.block 1 (.seq (.pl <| .e 8 9 <|
 .m 8 0 <|
 .m 9 1 <|
 .x 10 (.ia 1 (.v 8) (.v 9)) <|
 .l 11 10 <|
 .m 12 3 <|
 .x 13 (.ia 1 (.v 11) (.v 12)) <|
 .l 14 13 <|
 .m 15 1 <|
 .x 16 (.bin .eql (.v 14) (.v 15)) .done) K152_22)) K152_20
@[simp] def W152_23 := C.w K152_23.eq_1
def K152_24:C:=.cond 8 (.v 14) (.skip) (.exit 0)
@[simp] def W152_24 := C.w K152_24.eq_1
def K152_25:C:=.seq (.seq (.pl <| .e 8 7 <|
 .m 8 3 <|
 .m 9 0 <|
 .m 10 1 <|
 .x 11 (.ia 1 (.v 9) (.v 10)) <|
 .l 12 11 <|
 .x 13 (.lenV (.v 12)) <|
 .x 14 (.bin .lss (.v 8) (.v 13)) .done) K152_24) K152_23
@[simp] def W152_25 := C.w K152_25.eq_1
def K152_26:C:=.block 0 (.loop 8 [2,4,5,6,7] K152_25)
@[simp] def W152_26 := C.w K152_26.eq_1
def K152_27:C:=.seq (.seq (.pl <| .e 8 0 <|
 .x 3 (.mv (.c (.int .i64 0))) .done) K152_26) K152_19
@[simp] def W152_27 := C.w K152_27.eq_1
def B_spec_l7Loop:C:=.seq (.pl <| .e 8 0 <|
 .x 2 (.mv (.c (.bool false))) .done) K152_27
@[simp] def WB_spec_l7Loop := C.w B_spec_l7Loop.eq_1
def R_spec_l7Loop:FIR:=⟨B_spec_l7Loop,8,[(2,none)]⟩
theorem IR_spec_l7Loop:cfun Tryz.prog H_spec_l7Loop Tryz.f152=some R_spec_l7Loop:=by kernel_rfl
theorem EN_spec_l7Loop:ENT Tryz.prog B_spec_l7Loop [(2,none)] 2 8 fn_spec_l7Loop:=fun hargs hw=>enter Tryz.func152 rfl IR_spec_l7Loop hargs hw
def H_spec_l7Next:Hint:=⟨[(0,false),(1,true),(2,false),(3,false),(4,false),(5,true)],[[0,2,5]]⟩
def K150_1:C:=.seq (.pl <| .e 6 1 <|
 .m 6 3 <|
 .m 2 6 .done) (.ret)
@[simp] def W150_1 := C.w K150_1.eq_1
def K150_2:C:=.pl <| .e 6 2 <|
 .m 6 4 <|
 .x 7 (.bin .add (.v 6) (.c (.int .i64 1))) <|
 .m 4 7 .done
@[simp] def W150_2 := C.w K150_2.eq_1
def K150_3:Pl:=.x 18 (.ia 1 (.v 6) (.v 8)) <|
 .o (.ex none (.store 1 (.v 18) (.v 17))) .done
@[simp] def W150_3 := Pl.w K150_3.eq_1
def K150_4:C:=.pl <| .e 6 13 <|
 .m 6 3 <|
 .a 7 5 <|
 .g 8 7 5 0 <|
 .m 9 3 <|
 .a 10 5 <|
 .g 11 10 5 0 <|
 .x 12 (.ia 1 (.v 9) (.v 11)) <|
 .l 13 12 <|
 .a 14 5 <|
 .g 15 14 5 3 <|
 .o (.psl 16 [.int .i64 0] [(0,1,.v 15)]) <|
 .c 17 (.app 8 1 [.int .i64 0] (.o (.v 13)) (.p 1 16)) K150_3
@[simp] def W150_4 := C.w K150_4.eq_1
def K150_5:C:=.cond 6 (.v 14) K150_4 (.skip)
@[simp] def W150_5 := C.w K150_5.eq_1
def K150_6:Pl:=.x 14 (.un .not (.v 13)) .done
@[simp] def W150_6 := Pl.w K150_6.eq_1
def K150_7:C:=.seq (.pl <| .e 6 9 <|
 .m 6 3 <|
 .a 7 5 <|
 .g 8 7 5 0 <|
 .x 9 (.ia 1 (.v 6) (.v 8)) <|
 .l 10 9 <|
 .a 11 5 <|
 .g 12 11 5 3 <|
 .c 13 (.call fn_spec_l4In [.v 10,.v 12]) K150_6) K150_5
@[simp] def W150_7 := C.w K150_7.eq_1
def K150_8:C:=.seq (.block 1 (.seq (.pl <| .e 6 5 <|
 .a 6 1 <|
 .g 7 6 1 2 <|
 .m 8 4 <|
 .x 9 (.ia 4 (.v 7) (.v 8)) <|
 .o (.ld (some 10) (.v 9) (some 4)) <|
 .o (.pnew 5 (.c (.agg #[.int .i64 0,.int .i64 0,.int .i64 0,.int .i64 0])) []) <|
 .o (.pset none 5 0 4 (.v 10)) .done) K150_7)) K150_2
@[simp] def W150_8 := C.w K150_8.eq_1
def K150_9:C:=.cond 6 (.v 10) (.skip) (.exit 0)
@[simp] def W150_9 := C.w K150_9.eq_1
def K150_10:C:=.seq (.seq (.pl <| .e 6 5 <|
 .m 6 4 <|
 .a 7 1 <|
 .g 8 7 1 2 <|
 .x 9 (.lenV (.v 8)) <|
 .x 10 (.bin .lss (.v 6) (.v 9)) .done) K150_9) K150_8
@[simp] def W150_10 := C.w K150_10.eq_1
def K150_11:C:=.block 0 (.loop 6 [0,2,5] K150_10)
@[simp] def W150_11 := C.w K150_11.eq_1
def K150_12:C:=.seq (.seq (.pl <| .e 6 0 <|
 .x 4 (.mv (.c (.int .i64 0))) .done) K150_11) K150_1
@[simp] def W150_12 := C.w K150_12.eq_1
def K150_13:Pl:=.m 3 9 .done
@[simp] def W150_13 := Pl.w K150_13.eq_1
def K150_14:C:=.seq (.pl <| .e 6 4 <|
 .a 6 1 <|
 .g 7 6 1 1 <|
 .x 8 (.lenV (.v 7)) <|
 .c 9 (.mks 24 1 [.slice none 0 0] (.v 8) (.v 8)) K150_13) K150_12
@[simp] def W150_14 := C.w K150_14.eq_1
def B_spec_l7Next:C:=.seq (.pl <| .e 6 0 <|
 .o (.pnew 1 (.v 0) []) <|
 .x 2 (.mv (.c (.slice none 0 0))) .done) K150_14
@[simp] def WB_spec_l7Next := C.w B_spec_l7Next.eq_1
def R_spec_l7Next:FIR:=⟨B_spec_l7Next,6,[(2,none)]⟩
theorem IR_spec_l7Next:cfun Tryz.prog H_spec_l7Next Tryz.f150=some R_spec_l7Next:=by kernel_rfl
theorem EN_spec_l7Next:ENT Tryz.prog B_spec_l7Next [(2,none)] 1 6 fn_spec_l7Next:=fun hargs hw=>enter Tryz.func150 rfl IR_spec_l7Next hargs hw
def H_spec_l7On:Hint:=⟨[(0,false),(1,false),(2,true),(4,false)],[]⟩
def K154_1:C:=.seq (.pl <| .e 4 7 <|
 .m 4 1 <|
 .a 5 2 <|
 .g 6 5 2 1 <|
 .x 7 (.bin .and (.v 4) (.v 6)) <|
 .a 8 2 <|
 .g 9 8 2 2 <|
 .x 10 (.bin .eql (.v 7) (.v 9)) <|
 .m 3 10 .done) (.ret)
@[simp] def W154_1 := C.w K154_1.eq_1
def B_spec_l7On:C:=.seq (.pl <| .e 4 0 <|
 .o (.pnew 2 (.v 0) []) <|
 .x 3 (.mv (.c (.bool false))) .done) K154_1
@[simp] def WB_spec_l7On := C.w B_spec_l7On.eq_1
def R_spec_l7On:FIR:=⟨B_spec_l7On,4,[(3,none)]⟩
theorem IR_spec_l7On:cfun Tryz.prog H_spec_l7On Tryz.f154=some R_spec_l7On:=by kernel_rfl
theorem EN_spec_l7On:ENT Tryz.prog B_spec_l7On [(3,none)] 2 4 fn_spec_l7On:=fun hargs hw=>enter Tryz.func154 rfl IR_spec_l7On hargs hw
def H_spec_l7Reach:Hint:=⟨[(0,false),(1,false),(4,false),(5,false),(6,false),(7,false),(8,false),(9,false),(10,false)],[[2,6,7,8],[1,2,5,7,8],[1,2,5,8]]⟩
def K151_1:C:=.seq (.pl <| .e 9 1 <|
 .m 9 4 <|
 .m 2 9 .done) (.ret)
@[simp] def W151_1 := C.w K151_1.eq_1
def K151_2:C:=.pl <| .e 9 2 <|
 .m 9 6 <|
 .x 10 (.bin .add (.v 9) (.c (.int .i64 1))) <|
 .m 6 10 .done
@[simp] def W151_2 := C.w K151_2.eq_1
def K151_3:C:=.pl <| .e 9 2 <|
 .m 9 7 <|
 .x 10 (.bin .add (.v 9) (.c (.int .i64 1))) <|
 .m 7 10 .done
@[simp] def W151_3 := C.w K151_3.eq_1
def K151_4:Pl:=.m 4 12 .done
@[simp] def W151_4 := Pl.w K151_4.eq_1
def K151_5:C:=.pl <| .e 9 4 <|
 .m 9 4 <|
 .m 10 8 <|
 .o (.psl 11 [.int .i64 0] [(0,1,.v 10)]) <|
 .c 12 (.app 8 1 [.int .i64 0] (.o (.v 9)) (.p 1 11)) K151_4
@[simp] def W151_5 := C.w K151_5.eq_1
def K151_6:C:=.seq (.pl <| .e 9 3 <|
 .m 9 3 <|
 .m 10 8 <|
 .x 11 (.ia 1 (.v 9) (.v 10)) <|
 .o (.ex none (.store 1 (.v 11) (.c (.bool true)))) .done) K151_5
@[simp] def W151_6 := C.w K151_6.eq_1
def K151_7:C:=.cond 9 (.v 13) K151_6 (.skip)
@[simp] def W151_7 := C.w K151_7.eq_1
def K151_8:C:=.seq (.pl <| .e 9 5 <|
 .m 9 3 <|
 .m 10 8 <|
 .x 11 (.ia 1 (.v 9) (.v 10)) <|
 .l 12 11 <|
 .x 13 (.un .not (.v 12)) .done) K151_7
@[simp] def W151_8 := C.w K151_8.eq_1
def K151_9:C:=.seq (.block 5 (.seq (.pl <| .e 9 10 <|
 .m 9 0 <|
 .m 10 4 <|
 .m 11 6 <|
 .x 12 (.ia 1 (.v 10) (.v 11)) <|
 .l 13 12 <|
 .x 14 (.ia 1 (.v 9) (.v 13)) <|
 .l 15 14 <|
 .m 16 7 <|
 .x 17 (.ia 1 (.v 15) (.v 16)) <|
 .l 18 17 <|
 .m 8 18 .done) K151_8)) K151_3
@[simp] def W151_9 := C.w K151_9.eq_1
def K151_10:C:=.cond 9 (.v 18) (.skip) (.exit 4)
@[simp] def W151_10 := C.w K151_10.eq_1
def K151_11:C:=.seq (.seq (.pl <| .e 9 10 <|
 .m 9 7 <|
 .m 10 0 <|
 .m 11 4 <|
 .m 12 6 <|
 .x 13 (.ia 1 (.v 11) (.v 12)) <|
 .l 14 13 <|
 .x 15 (.ia 1 (.v 10) (.v 14)) <|
 .l 16 15 <|
 .x 17 (.lenV (.v 16)) <|
 .x 18 (.bin .lss (.v 9) (.v 17)) .done) K151_10) K151_9
@[simp] def W151_11 := C.w K151_11.eq_1
def K151_12:C:=.block 4 (.loop 9 [1,2,5,8] K151_11)
@[simp] def W151_12 := C.w K151_12.eq_1
def K151_13:C:=.seq (.block 3 (.seq (.pl <| .e 9 0 <|
 .x 7 (.mv (.c (.int .i64 0))) .done) K151_12)) K151_2
@[simp] def W151_13 := C.w K151_13.eq_1
def K151_14:C:=.cond 9 (.v 12) (.skip) (.exit 2)
@[simp] def W151_14 := C.w K151_14.eq_1
def K151_15:C:=.seq (.seq (.pl <| .e 9 4 <|
 .m 9 6 <|
 .m 10 4 <|
 .x 11 (.lenV (.v 10)) <|
 .x 12 (.bin .lss (.v 9) (.v 11)) .done) K151_14) K151_13
@[simp] def W151_15 := C.w K151_15.eq_1
def K151_16:C:=.block 2 (.loop 9 [1,2,5,7,8] K151_15)
@[simp] def W151_16 := C.w K151_16.eq_1
def K151_17:C:=.seq (.seq (.pl <| .e 9 0 <|
 .x 6 (.mv (.c (.int .i64 0))) .done) K151_16) K151_1
@[simp] def W151_17 := C.w K151_17.eq_1
def K151_18:C:=.pl <| .e 9 2 <|
 .m 9 5 <|
 .x 10 (.bin .add (.v 9) (.c (.int .i64 1))) <|
 .m 5 10 .done
@[simp] def W151_18 := C.w K151_18.eq_1
def K151_19:Pl:=.m 4 15 .done
@[simp] def W151_19 := Pl.w K151_19.eq_1
def K151_20:C:=.pl <| .e 9 7 <|
 .m 9 4 <|
 .m 10 1 <|
 .m 11 5 <|
 .x 12 (.ia 1 (.v 10) (.v 11)) <|
 .l 13 12 <|
 .o (.psl 14 [.int .i64 0] [(0,1,.v 13)]) <|
 .c 15 (.app 8 1 [.int .i64 0] (.o (.v 9)) (.p 1 14)) K151_19
@[simp] def W151_20 := C.w K151_20.eq_1
def K151_21:C:=.seq (.pl <| .e 9 6 <|
 .m 9 3 <|
 .m 10 1 <|
 .m 11 5 <|
 .x 12 (.ia 1 (.v 10) (.v 11)) <|
 .l 13 12 <|
 .x 14 (.ia 1 (.v 9) (.v 13)) <|
 .o (.ex none (.store 1 (.v 14) (.c (.bool true)))) .done) K151_20
@[simp] def W151_21 := C.w K151_21.eq_1
def K151_22:C:=.cond 9 (.v 16) K151_21 (.skip)
@[simp] def W151_22 := C.w K151_22.eq_1
def K151_23:C:=.seq (.block 1 (.seq (.pl <| .e 9 8 <|
 .m 9 3 <|
 .m 10 1 <|
 .m 11 5 <|
 .x 12 (.ia 1 (.v 10) (.v 11)) <|
 .l 13 12 <|
 .x 14 (.ia 1 (.v 9) (.v 13)) <|
 .l 15 14 <|
 .x 16 (.un .not (.v 15)) .done) K151_22)) K151_18
@[simp] def W151_23 := C.w K151_23.eq_1
def K151_24:C:=.cond 9 (.v 12) (.skip) (.exit 0)
@[simp] def W151_24 := C.w K151_24.eq_1
def K151_25:C:=.seq (.seq (.pl <| .e 9 4 <|
 .m 9 5 <|
 .m 10 1 <|
 .x 11 (.lenV (.v 10)) <|
 .x 12 (.bin .lss (.v 9) (.v 11)) .done) K151_24) K151_23
@[simp] def W151_25 := C.w K151_25.eq_1
def K151_26:C:=.block 0 (.loop 9 [2,6,7,8] K151_25)
@[simp] def W151_26 := C.w K151_26.eq_1
def K151_27:C:=.seq (.seq (.pl <| .e 9 0 <|
 .x 5 (.mv (.c (.int .i64 0))) .done) K151_26) K151_17
@[simp] def W151_27 := C.w K151_27.eq_1
def K151_28:Pl:=.m 4 9 .done
@[simp] def W151_28 := Pl.w K151_28.eq_1
def K151_29:C:=.seq (.pl <| .e 9 1 <|
 .c 9 (.bls 1 0 [.int .i64 0] []) K151_28) K151_27
@[simp] def W151_29 := C.w K151_29.eq_1
def K151_30:Pl:=.m 3 11 .done
@[simp] def W151_30 := Pl.w K151_30.eq_1
def K151_31:C:=.seq (.pl <| .e 9 3 <|
 .m 9 0 <|
 .x 10 (.lenV (.v 9)) <|
 .c 11 (.mks 1 1 [.bool false] (.v 10) (.v 10)) K151_30) K151_29
@[simp] def W151_31 := C.w K151_31.eq_1
def B_spec_l7Reach:C:=.seq (.pl <| .e 9 0 <|
 .x 2 (.mv (.c (.slice none 0 0))) .done) K151_31
@[simp] def WB_spec_l7Reach := C.w B_spec_l7Reach.eq_1
def R_spec_l7Reach:FIR:=⟨B_spec_l7Reach,9,[(2,none)]⟩
theorem IR_spec_l7Reach:cfun Tryz.prog H_spec_l7Reach Tryz.f151=some R_spec_l7Reach:=by kernel_rfl
theorem EN_spec_l7Reach:ENT Tryz.prog B_spec_l7Reach [(2,none)] 2 9 fn_spec_l7Reach:=fun hargs hw=>enter Tryz.func151 rfl IR_spec_l7Reach hargs hw
end Go.Proofs.YtbanccfdojgocaaGreat

namespace Go.Proofs.YtbanccfdojgocaaGreat
open Go
def H_impl_Formula_negation:Hint:=⟨[(0,false),(1,true),(2,true)],[]⟩
def K83_1:Pl:=.o (.pset none 2 0 3 (.v 6)) .done
@[simp] def W83_1 := Pl.w K83_1.eq_1
def K83_2:Pl:=.c 6 (.call fn_impl_formula [.c (.int .i64 3),.v 5]) K83_1
@[simp] def W83_2 := Pl.w K83_2.eq_1
def K83_3:Pl:=.c 5 (.bls 3 1 [.int .i64 0,.int .i64 0,.slice none 0 0] [(0,3,.v 4)]) K83_2
@[simp] def W83_3 := Pl.w K83_3.eq_1
def K83_4:C:=.seq (.pl <| .e 3 4 <|
 .o (.pget (some 3) none 1 0 (some 3)) <|
 .c 4 (.call fn_impl_Formula_copyOf [.v 3]) K83_3) (.ret)
@[simp] def W83_4 := C.w K83_4.eq_1
def K83_5:Pl:=.o (.pset none 2 0 3 (.v 7)) .done
@[simp] def W83_5 := Pl.w K83_5.eq_1
def K83_6:C:=.seq (.pl <| .e 3 5 <|
 .a 3 1 <|
 .g 4 3 1 2 <|
 .x 5 (.ia 3 (.v 4) (.c (.int .i64 0))) <|
 .o (.ld (some 6) (.v 5) (some 3)) <|
 .c 7 (.call fn_impl_Formula_copyOf [.v 6]) K83_5) (.ret)
@[simp] def W83_6 := C.w K83_6.eq_1
def K83_7:C:=.cond 3 (.v 5) K83_6 (.skip)
@[simp] def W83_7 := C.w K83_7.eq_1
def K83_8:C:=.seq (.seq (.pl <| .e 3 3 <|
 .a 3 1 <|
 .g 4 3 1 0 <|
 .x 5 (.bin .eql (.v 4) (.c (.int .i64 3))) .done) K83_7) K83_4
@[simp] def W83_8 := C.w K83_8.eq_1
def B_impl_Formula_negation:C:=.seq (.pl <| .e 3 0 <|
 .o (.pnew 1 (.v 0) []) <|
 .o (.pnew 2 (.c (.agg #[.int .i64 0,.int .i64 0,.slice none 0 0])) []) .done) K83_8
@[simp] def WB_impl_Formula_negation := C.w B_impl_Formula_negation.eq_1
def R_impl_Formula_negation:FIR:=⟨B_impl_Formula_negation,3,[(2,some (some 3))]⟩
theorem IR_impl_Formula_negation:cfun Tryz.prog H_impl_Formula_negation Tryz.f83=some R_impl_Formula_negation:=by kernel_rfl
theorem EN_impl_Formula_negation:ENT Tryz.prog B_impl_Formula_negation [(2,some (some 3))] 1 3 fn_impl_Formula_negation:=fun hargs hw=>enter Tryz.func83 rfl IR_impl_Formula_negation hargs hw
def H_impl_NegateFormula:Hint:=⟨[(0,false),(1,true),(2,true),(3,false)],[]⟩
def K26_1:Pl:=.o (.pset none 2 0 3 (.v 5)) <|
 .x 3 (.mv (.c (.bool true))) .done
@[simp] def W26_1 := Pl.w K26_1.eq_1
def K26_2:C:=.seq (.pl <| .e 4 2 <|
 .o (.pget (some 4) none 1 0 (some 3)) <|
 .c 5 (.call fn_impl_Formula_negation [.v 4]) K26_1) (.ret)
@[simp] def W26_2 := C.w K26_2.eq_1
def K26_3:C:=.seq (.pl <| .e 4 1 <|
 .x 4 (.build [.int .i64 0,.int .i64 0,.slice none 0 0] []) <|
 .o (.pset none 2 0 3 (.v 4)) <|
 .x 3 (.mv (.c (.bool false))) .done) (.ret)
@[simp] def W26_3 := C.w K26_3.eq_1
def K26_4:C:=.cond 4 (.v 12) K26_3 (.skip)
@[simp] def W26_4 := C.w K26_4.eq_1
def K26_5:Pl:=.n 7 (.px (some 11) (.un .not (.v 10))) <|
 .x 12 (.pick (.v 7) (.c (.bool true)) (.v 11)) .done
@[simp] def W26_5 := Pl.w K26_5.eq_1
def K26_6:Pl:=.st (.act (some (.v 7,false)) (.ex (some 10) (.call fn_impl_FormulaValid [.v 9]))) K26_5
@[simp] def W26_6 := Pl.w K26_6.eq_1
def K26_7:Pl:=.x 6 (.un .not (.v 5)) <|
 .m 7 6 <|
 .n 7 (.pget (some 8) none 1 0 (some 3)) <|
 .st (.act (some (.v 7,false)) (.ex (some 9) (.call fn_impl_Formula_negation [.v 8]))) K26_6
@[simp] def W26_7 := Pl.w K26_7.eq_1
def K26_8:C:=.seq (.seq (.pl <| .e 4 9 <|
 .o (.pget (some 4) none 1 0 (some 3)) <|
 .c 5 (.call fn_impl_FormulaValid [.v 4]) K26_7) K26_4) K26_2
@[simp] def W26_8 := C.w K26_8.eq_1
def B_impl_NegateFormula:C:=.seq (.pl <| .e 4 0 <|
 .o (.pnew 1 (.v 0) []) <|
 .o (.pnew 2 (.c (.agg #[.int .i64 0,.int .i64 0,.slice none 0 0])) []) <|
 .x 3 (.mv (.c (.bool false))) .done) K26_8
@[simp] def WB_impl_NegateFormula := C.w B_impl_NegateFormula.eq_1
def R_impl_NegateFormula:FIR:=⟨B_impl_NegateFormula,4,[(2,some (some 3)),(3,none)]⟩
theorem IR_impl_NegateFormula:cfun Tryz.prog H_impl_NegateFormula Tryz.f26=some R_impl_NegateFormula:=by kernel_rfl
theorem EN_impl_NegateFormula:ENT Tryz.prog B_impl_NegateFormula [(2,some (some 3)),(3,none)] 1 4 fn_impl_NegateFormula:=fun hargs hw=>enter Tryz.func26 rfl IR_impl_NegateFormula hargs hw
end Go.Proofs.YtbanccfdojgocaaGreat

namespace Go.Proofs.YtbanccfdojgocaaGreat
open Go
end Go.Proofs.YtbanccfdojgocaaGreat

namespace Go.Proofs.YtbanccfdojgocaaGreat
open Go
end Go.Proofs.YtbanccfdojgocaaGreat

namespace Go.Proofs.YtbanccfdojgocaaGreat
open Go
end Go.Proofs.YtbanccfdojgocaaGreat
