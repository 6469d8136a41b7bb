/-
  Texts of this proof, one behind the other.
-/
import Derived.Test.YtbanccfdojgocaaGreatRows
import Derived.WalkKit
import Derived.ProofKit
import Derived.OpenShut
import Derived.Carry
import Derived.Deep.Slices
import Derived.SizedLaws
import Derived.Test.YtbanccfdojgocaaGreatYF2
set_option linter.all false
set_option linter.unusedVariables false
set_option linter.unusedSimpArgs false
set_option linter.defProp false
set_option maxRecDepth 1000000
namespace Go.Proofs.YtbanccfdojgocaaGreat
open Go
abbrev fn_main_main:Nat:=0
abbrev fn_gosem_cut:Nat:=1
abbrev fn_gosem_cut_init:Nat:=2
abbrev fn_laws_FnTranslateFormula:Nat:=3
abbrev fn_laws_FnTranslateEquivalent:Nat:=4
abbrev fn_laws_FnTranslateNext:Nat:=5
abbrev fn_laws_FnUnionDistributes:Nat:=6
abbrev fn_laws_FnIntersectConjunction:Nat:=7
abbrev fn_laws_FnTranslateNegation:Nat:=8
abbrev fn_laws_FnExactShortestBad:Nat:=9
abbrev fn_laws_FnExactMonitorFormula:Nat:=10
abbrev fn_laws_FnExactMonitorRun:Nat:=11
abbrev fn_laws_FnMonitorNegation:Nat:=12
abbrev fn_laws_FnMonitorSafety:Nat:=13
abbrev fn_spec_DrawTranslateFormula:Nat:=14
abbrev fn_spec_DrawAccepts:Nat:=15
abbrev fn_impl_TranslateFormula:Nat:=16
abbrev fn_spec_TranslateFormula:Nat:=17
abbrev fn_impl_AutomatonSame:Nat:=18
abbrev fn_impl_Accepts:Nat:=19
abbrev fn_impl_Satisfies:Nat:=20
abbrev fn_impl_AutomatonValid:Nat:=21
abbrev fn_impl_NormalForm:Nat:=22
abbrev fn_impl_SuffixAt:Nat:=23
abbrev fn_impl_UniteAutomata:Nat:=24
abbrev fn_impl_IntersectAutomata:Nat:=25
abbrev fn_impl_NegateFormula:Nat:=26
abbrev fn_impl_FindWord:Nat:=27
abbrev fn_laws_szFormula:Nat:=28
abbrev fn_spec_ShortestBad:Nat:=29
abbrev fn_laws_toFormula:Nat:=30
abbrev fn_impl_ShortestBad:Nat:=31
abbrev fn_laws_eqIntS:Nat:=32
abbrev fn_laws_eqFormula:Nat:=33
abbrev fn_laws_markFormula:Nat:=34
abbrev fn_laws_markIntS:Nat:=35
abbrev fn_laws_heldIntS:Nat:=36
abbrev fn_spec_MonitorFormula:Nat:=37
abbrev fn_laws_toIntS:Nat:=38
abbrev fn_impl_MonitorFormula:Nat:=39
abbrev fn_spec_MonitorRun:Nat:=40
abbrev fn_impl_MonitorRun:Nat:=41
abbrev fn_spec_DrawMonitorFormula:Nat:=42
abbrev fn_spec_DrawMonitorRun:Nat:=43
abbrev fn_laws_wpInts:Nat:=44
abbrev fn_spec_DrawFormulaValid:Nat:=45
abbrev fn_spec_l16Open:Nat:=46
abbrev fn_spec_l7Mutate:Nat:=47
abbrev fn_spec_l7Automaton:Nat:=48
abbrev fn_spec_l6Mutate:Nat:=49
abbrev fn_spec_l6Lasso:Nat:=50
abbrev fn_impl_BasicFormulas:Nat:=51
abbrev fn_impl_Formula_normalForm:Nat:=52
abbrev fn_impl_translator_holds:Nat:=53
abbrev fn_impl_TranslateFormula_1:Nat:=54
abbrev fn_impl_translator_fulfils:Nat:=55
abbrev fn_impl_explore_impl_phased:Nat:=56
abbrev fn_impl_translator_moves:Nat:=57
abbrev fn_spec_BasicFormulas:Nat:=58
abbrev fn_spec_NormalForm:Nat:=59
abbrev fn_spec_l7Untils:Nat:=60
abbrev fn_spec_l7Value:Nat:=61
abbrev fn_spec_l7Phase:Nat:=62
abbrev fn_spec_l7Letter:Nat:=63
abbrev fn_spec_l7Follows:Nat:=64
abbrev fn_spec_l7Pair:Nat:=65
abbrev fn_slices_Equal_S_int_int:Nat:=66
abbrev fn_slices_Equal_S_bool_bool:Nat:=67
abbrev fn_slices_Equal_S_impl_Transition_impl_Transition:Nat:=68
abbrev fn_impl_LassoValid:Nat:=69
abbrev fn_impl_Automaton_accepts:Nat:=70
abbrev fn_impl_FormulaValid:Nat:=71
abbrev fn_impl_Lasso_truths:Nat:=72
abbrev fn_impl_in:Nat:=73
abbrev fn_slices_ContainsFunc_S_impl_Transition_impl_Transition:Nat:=74
abbrev fn_impl_AutomatonValid_1:Nat:=75
abbrev fn_impl_clone_int:Nat:=76
abbrev fn_slices_Clip_S_int_int:Nat:=77
abbrev fn_slices_Concat_S_int_int:Nat:=78
abbrev fn_impl_Automaton_copyOf:Nat:=79
abbrev fn_impl_IntersectAutomata_1:Nat:=80
abbrev fn_impl_explore_impl_triple:Nat:=81
abbrev fn_impl_IntersectAutomata_2:Nat:=82
abbrev fn_impl_Formula_negation:Nat:=83
abbrev fn_impl_lasso:Nat:=84
abbrev fn_impl_Automaton_next:Nat:=85
abbrev fn_impl_FindWord_1:Nat:=86
abbrev fn_impl_Automaton_values:Nat:=87
abbrev fn_laws_szFormulaS:Nat:=88
abbrev fn_spec_LiveStates:Nat:=89
abbrev fn_spec_l12Only:Nat:=90
abbrev fn_spec_l12Step:Nat:=91
abbrev fn_laws_toFormulaS:Nat:=92
abbrev fn_impl_Automaton_live:Nat:=93
abbrev fn_impl_Automaton_begin:Nat:=94
abbrev fn_slices_Contains_S_bool_bool:Nat:=95
abbrev fn_impl_Automaton_after:Nat:=96
abbrev fn_slices_ContainsFunc_S_S_bool_S_bool:Nat:=97
abbrev fn_impl_ShortestBad_1:Nat:=98
abbrev fn_laws_eqFormulaS:Nat:=99
abbrev fn_laws_markFormulaS:Nat:=100
abbrev fn_spec_FormulaValid:Nat:=101
abbrev fn_spec_l12Word:Nat:=102
abbrev fn_spec_l12Both:Nat:=103
abbrev fn_spec_l12Verdict:Nat:=104
abbrev fn_impl_monitorRun:Nat:=105
abbrev fn_spec_l5Mutate:Nat:=106
abbrev fn_spec_l5Formula:Nat:=107
abbrev fn_spec_l12Letters:Nat:=108
abbrev fn_spec_l16Rd_pick:Nat:=109
abbrev fn_spec_l16Rd_num:Nat:=110
abbrev fn_spec_l6Word:Nat:=111
abbrev fn_impl_basics:Nat:=112
abbrev fn_impl_Formula_normal:Nat:=113
abbrev fn_impl_formulaAt:Nat:=114
abbrev fn_impl_explore_impl_phased_1:Nat:=115
abbrev fn_impl_translator_follows:Nat:=116
abbrev fn_spec_l5Subs:Nat:=117
abbrev fn_spec_l7Basic:Nat:=118
abbrev fn_spec_l5Push:Nat:=119
abbrev fn_spec_l6Has:Nat:=120
abbrev fn_spec_l5Find:Nat:=121
abbrev fn_spec_l7Fulfils:Nat:=122
abbrev fn_spec_l2Ints:Nat:=123
abbrev fn_impl_letters:Nat:=124
abbrev fn_impl_Lasso_all:Nat:=125
abbrev fn_impl_Transition_takes:Nat:=126
abbrev fn_impl_Lasso_next:Nat:=127
abbrev fn_impl_cyclic:Nat:=128
abbrev fn_impl_reachable:Nat:=129
abbrev fn_impl_FormulaNodes:Nat:=130
abbrev fn_impl_Lasso_truths_1:Nat:=131
abbrev fn_impl_Lasso_truths_2:Nat:=132
abbrev fn_impl_Lasso_truths_3:Nat:=133
abbrev fn_impl_Lasso_truths_4:Nat:=134
abbrev fn_impl_Lasso_truths_5:Nat:=135
abbrev fn_slices_IndexFunc_S_impl_Transition_impl_Transition:Nat:=136
abbrev fn_slices_Clone_S_int_int:Nat:=137
abbrev fn_slices_Grow_S_int_int:Nat:=138
abbrev fn_impl_clone_bool:Nat:=139
abbrev fn_impl_clone_impl_Transition:Nat:=140
abbrev fn_impl_explore_impl_triple_1:Nat:=141
abbrev fn_impl_Formula_copyOf:Nat:=142
abbrev fn_impl_formula:Nat:=143
abbrev fn_impl_order:Nat:=144
abbrev fn_impl_shortest:Nat:=145
abbrev fn_impl_lasso_1:Nat:=146
abbrev fn_impl_around:Nat:=147
abbrev fn_impl_Automaton_values_1:Nat:=148
abbrev fn_spec_AutomatonValid:Nat:=149
abbrev fn_spec_l7Next:Nat:=150
abbrev fn_spec_l7Reach:Nat:=151
abbrev fn_spec_l7Loop:Nat:=152
abbrev fn_spec_l4In:Nat:=153
abbrev fn_spec_l7On:Nat:=154
abbrev fn_spec_l10Sorted:Nat:=155
abbrev fn_slices_Index_S_bool_bool:Nat:=156
abbrev fn_slices_IndexFunc_S_S_bool_S_bool:Nat:=157
abbrev fn_spec_l5Shape:Nat:=158
abbrev fn_spec_l5Count:Nat:=159
abbrev fn_spec_l6Letters:Nat:=160
abbrev fn_spec_l8Negation:Nat:=161
abbrev fn_spec_l12States:Nat:=162
abbrev fn_impl_monitors:Nat:=163
abbrev fn_spec_l5Copy:Nat:=164
abbrev fn_spec_l5True:Nat:=165
abbrev fn_spec_l5Random:Nat:=166
abbrev fn_impl_Formula_subformulas:Nat:=167
abbrev fn_slices_Clip_S_impl_Formula_impl_Formula:Nat:=168
abbrev fn_impl_Formula_normal_1:Nat:=169
abbrev fn_impl_Formula_normal_2:Nat:=170
abbrev fn_slices_IndexFunc_S_impl_Formula_impl_Formula:Nat:=171
abbrev fn_impl_formulaAt_1:Nat:=172
abbrev fn_impl_FormulaSame:Nat:=173
abbrev fn_spec_l5Not:Nat:=174
abbrev fn_spec_l5Dual:Nat:=175
abbrev fn_spec_FormulaSame:Nat:=176
abbrev fn_slices_ContainsFunc_S_int_int:Nat:=177
abbrev fn_impl_letters_1:Nat:=178
abbrev fn_impl_components:Nat:=179
abbrev fn_slices_Contains_S_int_int:Nat:=180
abbrev fn_impl_Formula_walk:Nat:=181
abbrev fn_slices_Clip_S_bool_bool:Nat:=182
abbrev fn_slices_Clone_S_bool_bool:Nat:=183
abbrev fn_slices_Clip_S_impl_Transition_impl_Transition:Nat:=184
abbrev fn_slices_Clone_S_impl_Transition_impl_Transition:Nat:=185
abbrev fn_impl_clone_impl_Formula:Nat:=186
abbrev fn_impl_order_1:Nat:=187
abbrev fn_slices_Reverse_S_int_int:Nat:=188
abbrev fn_impl_around_1:Nat:=189
abbrev fn_spec_l7Edge:Nat:=190
abbrev fn_spec_l5Arity:Nat:=191
abbrev fn_spec_NegateFormula:Nat:=192
abbrev fn_impl_wordOk:Nat:=193
abbrev fn_impl_negated:Nat:=194
abbrev fn_impl_Formula_subformulas_1:Nat:=195
abbrev fn_slices_EqualFunc_S_impl_Formula_S_impl_Formula_impl_Formula_impl_Formula:Nat:=196
abbrev fn_slices_IndexFunc_S_int_int:Nat:=197
abbrev fn_impl_components_1:Nat:=198
abbrev fn_slices_Index_S_int_int:Nat:=199
abbrev fn_impl_operands:Nat:=200
abbrev fn_slices_ContainsFunc_S_impl_Formula_impl_Formula:Nat:=201
abbrev fn_impl_Formula_walk_1:Nat:=202
abbrev fn_slices_Clone_S_impl_Formula_impl_Formula:Nat:=203
abbrev fn_runtime_boundsError_Error:Nat:=204
abbrev fn_runtime_boundsError_RuntimeError:Nat:=205
abbrev fn_runtime_errorString_Error:Nat:=206
abbrev fn_runtime_errorString_RuntimeError:Nat:=207
abbrev fn_runtime_plainError_Error:Nat:=208
abbrev fn_runtime_plainError_RuntimeError:Nat:=209
abbrev fn_runtime_errorAddressString_Error:Nat:=210
abbrev fn_runtime_errorAddressString_RuntimeError:Nat:=211
abbrev fn_runtime_TypeAssertionError_Error:Nat:=212
abbrev fn_runtime_TypeAssertionError_RuntimeError:Nat:=213
abbrev fn_runtime_PanicNilError_Error:Nat:=214
abbrev fn_runtime_PanicNilError_RuntimeError:Nat:=215
abbrev fn_internal_abi_Type_Align:Nat:=216
abbrev fn_internal_runtime_maps_unhashableTypeError_Error:Nat:=217
abbrev fn_internal_runtime_maps_unhashableTypeError_RuntimeError:Nat:=218
abbrev fn_impl_Formula_text:Nat:=219
abbrev fn_impl_Automaton_accepting:Nat:=220
abbrev fn_spec_l16Rd_word:Nat:=221
abbrev fn_internal_abi_Kind_String:Nat:=222
end Go.Proofs.YtbanccfdojgocaaGreat

namespace Go.Proofs.YtbanccfdojgocaaGreat
open Go
def H_laws_eqFormula:Hint:=⟨[(0,false),(1,false),(2,true),(3,true),(4,false)],[]⟩
def K33_1:C:=.seq (.pl <| .e 5 0 <|
 .x 4 (.mv (.c (.bool true))) .done) (.ret)
@[simp] def W33_1 := C.w K33_1.eq_1
def K33_2:C:=.seq (.pl <| .e 5 0 <|
 .x 4 (.mv (.c (.bool false))) .done) (.ret)
@[simp] def W33_2 := C.w K33_2.eq_1
def K33_3:C:=.cond 5 (.v 10) K33_2 (.skip)
@[simp] def W33_3 := C.w K33_3.eq_1
def K33_4:Pl:=.x 10 (.un .not (.v 9)) .done
@[simp] def W33_4 := Pl.w K33_4.eq_1
def K33_5:C:=.seq (.seq (.pl <| .e 5 6 <|
 .a 5 2 <|
 .g 6 5 2 2 <|
 .a 7 3 <|
 .g 8 7 3 2 <|
 .c 9 (.call fn_laws_eqFormulaS [.v 6,.v 8]) K33_4) K33_3) K33_1
@[simp] def W33_5 := C.w K33_5.eq_1
def K33_6:C:=.seq (.pl <| .e 5 0 <|
 .x 4 (.mv (.c (.bool false))) .done) (.ret)
@[simp] def W33_6 := C.w K33_6.eq_1
def K33_7:C:=.cond 5 (.v 9) K33_6 (.skip)
@[simp] def W33_7 := C.w K33_7.eq_1
def K33_8:C:=.seq (.seq (.pl <| .e 5 5 <|
 .a 5 2 <|
 .g 6 5 2 1 <|
 .a 7 3 <|
 .g 8 7 3 1 <|
 .x 9 (.bin .neq (.v 6) (.v 8)) .done) K33_7) K33_5
@[simp] def W33_8 := C.w K33_8.eq_1
def K33_9:C:=.seq (.pl <| .e 5 0 <|
 .x 4 (.mv (.c (.bool false))) .done) (.ret)
@[simp] def W33_9 := C.w K33_9.eq_1
def K33_10:C:=.cond 5 (.v 9) K33_9 (.skip)
@[simp] def W33_10 := C.w K33_10.eq_1
def K33_11:C:=.seq (.seq (.pl <| .e 5 5 <|
 .a 5 2 <|
 .g 6 5 2 0 <|
 .a 7 3 <|
 .g 8 7 3 0 <|
 .x 9 (.bin .neq (.v 6) (.v 8)) .done) K33_10) K33_8
@[simp] def W33_11 := C.w K33_11.eq_1
def B_laws_eqFormula:C:=.seq (.pl <| .e 5 0 <|
 .o (.pnew 2 (.v 0) []) <|
 .o (.pnew 3 (.v 1) []) <|
 .x 4 (.mv (.c (.bool false))) .done) K33_11
@[simp] def WB_laws_eqFormula := C.w B_laws_eqFormula.eq_1
def R_laws_eqFormula:FIR:=⟨B_laws_eqFormula,5,[(4,none)]⟩
theorem IR_laws_eqFormula:cfun Tryz.prog H_laws_eqFormula Tryz.f33=some R_laws_eqFormula:=by kernel_rfl
theorem EN_laws_eqFormula:ENT Tryz.prog B_laws_eqFormula [(4,none)] 2 5 fn_laws_eqFormula:=fun hargs hw=>enter Tryz.func33 rfl IR_laws_eqFormula hargs hw
def H_laws_eqFormulaS:Hint:=⟨[(0,false),(1,false),(4,false),(5,false)],[[2]]⟩
def K99_1:C:=.seq (.pl <| .e 4 0 <|
 .x 2 (.mv (.c (.bool true))) .done) (.ret)
@[simp] def W99_1 := C.w K99_1.eq_1
def K99_2:C:=.pl <| .e 4 2 <|
 .m 4 3 <|
 .x 5 (.bin .add (.v 4) (.c (.int .i64 1))) <|
 .m 3 5 .done
@[simp] def W99_2 := C.w K99_2.eq_1
def K99_3:C:=.seq (.pl <| .e 4 0 <|
 .x 2 (.mv (.c (.bool false))) .done) (.ret)
@[simp] def W99_3 := C.w K99_3.eq_1
def K99_4:C:=.cond 4 (.v 13) K99_3 (.skip)
@[simp] def W99_4 := C.w K99_4.eq_1
def K99_5:Pl:=.x 13 (.un .not (.v 12)) .done
@[simp] def W99_5 := Pl.w K99_5.eq_1
def K99_6:C:=.seq (.block 1 (.seq (.pl <| .e 4 10 <|
 .m 4 0 <|
 .m 5 3 <|
 .x 6 (.ia 3 (.v 4) (.v 5)) <|
 .o (.ld (some 7) (.v 6) (some 3)) <|
 .m 8 1 <|
 .m 9 3 <|
 .x 10 (.ia 3 (.v 8) (.v 9)) <|
 .o (.ld (some 11) (.v 10) (some 3)) <|
 .c 12 (.call fn_laws_eqFormula [.v 7,.v 11]) K99_5) K99_4)) K99_2
@[simp] def W99_6 := C.w K99_6.eq_1
def K99_7:C:=.cond 4 (.v 7) (.skip) (.exit 0)
@[simp] def W99_7 := C.w K99_7.eq_1
def K99_8:C:=.seq (.seq (.pl <| .e 4 4 <|
 .m 4 3 <|
 .m 5 0 <|
 .x 6 (.lenV (.v 5)) <|
 .x 7 (.bin .lss (.v 4) (.v 6)) .done) K99_7) K99_6
@[simp] def W99_8 := C.w K99_8.eq_1
def K99_9:C:=.block 0 (.loop 4 [2] K99_8)
@[simp] def W99_9 := C.w K99_9.eq_1
def K99_10:C:=.seq (.seq (.pl <| .e 4 0 <|
 .x 3 (.mv (.c (.int .i64 0))) .done) K99_9) K99_1
@[simp] def W99_10 := C.w K99_10.eq_1
def K99_11:C:=.seq (.pl <| .e 4 0 <|
 .x 2 (.mv (.c (.bool false))) .done) (.ret)
@[simp] def W99_11 := C.w K99_11.eq_1
def K99_12:C:=.cond 4 (.v 8) K99_11 (.skip)
@[simp] def W99_12 := C.w K99_12.eq_1
def K99_13:C:=.seq (.seq (.pl <| .e 4 5 <|
 .m 4 0 <|
 .x 5 (.lenV (.v 4)) <|
 .m 6 1 <|
 .x 7 (.lenV (.v 6)) <|
 .x 8 (.bin .neq (.v 5) (.v 7)) .done) K99_12) K99_10
@[simp] def W99_13 := C.w K99_13.eq_1
def B_laws_eqFormulaS:C:=.seq (.pl <| .e 4 0 <|
 .x 2 (.mv (.c (.bool false))) .done) K99_13
@[simp] def WB_laws_eqFormulaS := C.w B_laws_eqFormulaS.eq_1
def R_laws_eqFormulaS:FIR:=⟨B_laws_eqFormulaS,4,[(2,none)]⟩
theorem IR_laws_eqFormulaS:cfun Tryz.prog H_laws_eqFormulaS Tryz.f99=some R_laws_eqFormulaS:=by kernel_rfl
theorem EN_laws_eqFormulaS:ENT Tryz.prog B_laws_eqFormulaS [(2,none)] 2 4 fn_laws_eqFormulaS:=fun hargs hw=>enter Tryz.func99 rfl IR_laws_eqFormulaS hargs hw
def H_laws_eqIntS:Hint:=⟨[(0,false),(1,false),(4,false),(5,false)],[[2]]⟩
def K32_1:C:=.seq (.pl <| .e 4 0 <|
 .x 2 (.mv (.c (.bool true))) .done) (.ret)
@[simp] def W32_1 := C.w K32_1.eq_1
def K32_2:C:=.pl <| .e 4 2 <|
 .m 4 3 <|
 .x 5 (.bin .add (.v 4) (.c (.int .i64 1))) <|
 .m 3 5 .done
@[simp] def W32_2 := C.w K32_2.eq_1
def K32_3:C:=.seq (.pl <| .e 4 0 <|
 .x 2 (.mv (.c (.bool false))) .done) (.ret)
@[simp] def W32_3 := C.w K32_3.eq_1
def K32_4:C:=.cond 4 (.v 12) K32_3 (.skip)
@[simp] def W32_4 := C.w K32_4.eq_1
def K32_5:C:=.seq (.block 1 (.seq (.pl <| .e 4 9 <|
 .m 4 0 <|
 .m 5 3 <|
 .x 6 (.ia 1 (.v 4) (.v 5)) <|
 .l 7 6 <|
 .m 8 1 <|
 .m 9 3 <|
 .x 10 (.ia 1 (.v 8) (.v 9)) <|
 .l 11 10 <|
 .x 12 (.bin .neq (.v 7) (.v 11)) .done) K32_4)) K32_2
@[simp] def W32_5 := C.w K32_5.eq_1
def K32_6:C:=.cond 4 (.v 7) (.skip) (.exit 0)
@[simp] def W32_6 := C.w K32_6.eq_1
def K32_7:C:=.seq (.seq (.pl <| .e 4 4 <|
 .m 4 3 <|
 .m 5 0 <|
 .x 6 (.lenV (.v 5)) <|
 .x 7 (.bin .lss (.v 4) (.v 6)) .done) K32_6) K32_5
@[simp] def W32_7 := C.w K32_7.eq_1
def K32_8:C:=.block 0 (.loop 4 [2] K32_7)
@[simp] def W32_8 := C.w K32_8.eq_1
def K32_9:C:=.seq (.seq (.pl <| .e 4 0 <|
 .x 3 (.mv (.c (.int .i64 0))) .done) K32_8) K32_1
@[simp] def W32_9 := C.w K32_9.eq_1
def K32_10:C:=.seq (.pl <| .e 4 0 <|
 .x 2 (.mv (.c (.bool false))) .done) (.ret)
@[simp] def W32_10 := C.w K32_10.eq_1
def K32_11:C:=.cond 4 (.v 8) K32_10 (.skip)
@[simp] def W32_11 := C.w K32_11.eq_1
def K32_12:C:=.seq (.seq (.pl <| .e 4 5 <|
 .m 4 0 <|
 .x 5 (.lenV (.v 4)) <|
 .m 6 1 <|
 .x 7 (.lenV (.v 6)) <|
 .x 8 (.bin .neq (.v 5) (.v 7)) .done) K32_11) K32_9
@[simp] def W32_12 := C.w K32_12.eq_1
def B_laws_eqIntS:C:=.seq (.pl <| .e 4 0 <|
 .x 2 (.mv (.c (.bool false))) .done) K32_12
@[simp] def WB_laws_eqIntS := C.w B_laws_eqIntS.eq_1
def R_laws_eqIntS:FIR:=⟨B_laws_eqIntS,4,[(2,none)]⟩
theorem IR_laws_eqIntS:cfun Tryz.prog H_laws_eqIntS Tryz.f32=some R_laws_eqIntS:=by kernel_rfl
theorem EN_laws_eqIntS:ENT Tryz.prog B_laws_eqIntS [(2,none)] 2 4 fn_laws_eqIntS:=fun hargs hw=>enter Tryz.func32 rfl IR_laws_eqIntS hargs hw
def H_laws_szFormula:Hint:=⟨[(0,false),(1,false),(2,true),(4,false)],[]⟩
def K28_1:C:=.seq (.pl <| .e 4 1 <|
 .m 4 1 <|
 .m 3 4 .done) (.ret)
@[simp] def W28_1 := C.w K28_1.eq_1
def K28_2:C:=.seq (.pl <| .e 4 0 <|
 .x 3 (.mv (.c (.int .i64 (-1)))) .done) (.ret)
@[simp] def W28_2 := C.w K28_2.eq_1
def K28_3:C:=.cond 4 (.v 5) K28_2 (.skip)
@[simp] def W28_3 := C.w K28_3.eq_1
def K28_4:C:=.seq (.seq (.pl <| .e 4 2 <|
 .m 4 1 <|
 .x 5 (.bin .lss (.v 4) (.c (.int .i64 0))) .done) K28_3) K28_1
@[simp] def W28_4 := C.w K28_4.eq_1
def K28_5:Pl:=.m 1 7 .done
@[simp] def W28_5 := Pl.w K28_5.eq_1
def K28_6:C:=.seq (.pl <| .e 4 4 <|
 .a 4 2 <|
 .g 5 4 2 2 <|
 .m 6 1 <|
 .c 7 (.call fn_laws_szFormulaS [.v 5,.v 6]) K28_5) K28_4
@[simp] def W28_6 := C.w K28_6.eq_1
def B_laws_szFormula:C:=.seq (.pl <| .e 4 0 <|
 .o (.pnew 2 (.v 0) []) <|
 .x 3 (.mv (.c (.int .i64 0))) .done) K28_6
@[simp] def WB_laws_szFormula := C.w B_laws_szFormula.eq_1
def R_laws_szFormula:FIR:=⟨B_laws_szFormula,4,[(3,none)]⟩
theorem IR_laws_szFormula:cfun Tryz.prog H_laws_szFormula Tryz.f28=some R_laws_szFormula:=by kernel_rfl
theorem EN_laws_szFormula:ENT Tryz.prog B_laws_szFormula [(3,none)] 2 4 fn_laws_szFormula:=fun hargs hw=>enter Tryz.func28 rfl IR_laws_szFormula hargs hw
def H_laws_szFormulaS:Hint:=⟨[(0,false),(1,false),(4,false),(5,false)],[[2]]⟩
def K88_1:C:=.seq (.pl <| .e 4 1 <|
 .m 4 1 <|
 .m 2 4 .done) (.ret)
@[simp] def W88_1 := C.w K88_1.eq_1
def K88_2:C:=.pl <| .e 4 2 <|
 .m 4 3 <|
 .x 5 (.bin .add (.v 4) (.c (.int .i64 1))) <|
 .m 3 5 .done
@[simp] def W88_2 := C.w K88_2.eq_1
def K88_3:C:=.seq (.pl <| .e 4 0 <|
 .x 2 (.mv (.c (.int .i64 (-1)))) .done) (.ret)
@[simp] def W88_3 := C.w K88_3.eq_1
def K88_4:C:=.cond 4 (.v 5) K88_3 (.skip)
@[simp] def W88_4 := C.w K88_4.eq_1
def K88_5:C:=.seq (.pl <| .e 4 2 <|
 .m 4 1 <|
 .x 5 (.bin .lss (.v 4) (.c (.int .i64 0))) .done) K88_4
@[simp] def W88_5 := C.w K88_5.eq_1
def K88_6:Pl:=.m 1 9 .done
@[simp] def W88_6 := Pl.w K88_6.eq_1
def K88_7:C:=.seq (.block 1 (.seq (.pl <| .e 4 6 <|
 .m 4 0 <|
 .m 5 3 <|
 .x 6 (.ia 3 (.v 4) (.v 5)) <|
 .o (.ld (some 7) (.v 6) (some 3)) <|
 .m 8 1 <|
 .c 9 (.call fn_laws_szFormula [.v 7,.v 8]) K88_6) K88_5)) K88_2
@[simp] def W88_7 := C.w K88_7.eq_1
def K88_8:C:=.cond 4 (.v 7) (.skip) (.exit 0)
@[simp] def W88_8 := C.w K88_8.eq_1
def K88_9:C:=.seq (.seq (.pl <| .e 4 4 <|
 .m 4 3 <|
 .m 5 0 <|
 .x 6 (.lenV (.v 5)) <|
 .x 7 (.bin .lss (.v 4) (.v 6)) .done) K88_8) K88_7
@[simp] def W88_9 := C.w K88_9.eq_1
def K88_10:C:=.block 0 (.loop 4 [2] K88_9)
@[simp] def W88_10 := C.w K88_10.eq_1
def K88_11:C:=.seq (.seq (.pl <| .e 4 0 <|
 .x 3 (.mv (.c (.int .i64 0))) .done) K88_10) K88_1
@[simp] def W88_11 := C.w K88_11.eq_1
def K88_12:C:=.seq (.pl <| .e 4 0 <|
 .x 2 (.mv (.c (.int .i64 (-1)))) .done) (.ret)
@[simp] def W88_12 := C.w K88_12.eq_1
def K88_13:C:=.cond 4 (.v 5) K88_12 (.skip)
@[simp] def W88_13 := C.w K88_13.eq_1
def K88_14:C:=.seq (.seq (.pl <| .e 4 2 <|
 .m 4 1 <|
 .x 5 (.bin .lss (.v 4) (.c (.int .i64 0))) .done) K88_13) K88_11
@[simp] def W88_14 := C.w K88_14.eq_1
def K88_15:C:=.seq (.pl <| .e 4 4 <|
 .m 4 1 <|
 .m 5 0 <|
 .x 6 (.lenV (.v 5)) <|
 .x 7 (.bin .sub (.v 4) (.v 6)) <|
 .m 1 7 .done) K88_14
@[simp] def W88_15 := C.w K88_15.eq_1
def B_laws_szFormulaS:C:=.seq (.pl <| .e 4 0 <|
 .x 2 (.mv (.c (.int .i64 0))) .done) K88_15
@[simp] def WB_laws_szFormulaS := C.w B_laws_szFormulaS.eq_1
def R_laws_szFormulaS:FIR:=⟨B_laws_szFormulaS,4,[(2,none)]⟩
theorem IR_laws_szFormulaS:cfun Tryz.prog H_laws_szFormulaS Tryz.f88=some R_laws_szFormulaS:=by kernel_rfl
theorem EN_laws_szFormulaS:ENT Tryz.prog B_laws_szFormulaS [(2,none)] 2 4 fn_laws_szFormulaS:=fun hargs hw=>enter Tryz.func88 rfl IR_laws_szFormulaS hargs hw
def H_laws_toFormula:Hint:=⟨[(0,false),(1,true),(2,true),(3,true)],[]⟩
def K30_1:C:=.seq (.pl <| .e 4 1 <|
 .o (.pget (some 4) none 3 0 (some 3)) <|
 .o (.pset none 2 0 3 (.v 4)) .done) (.ret)
@[simp] def W30_1 := C.w K30_1.eq_1
def K30_2:Pl:=.a 7 3 <|
 .o (.pset (some 7) 3 2 1 (.v 6)) .done
@[simp] def W30_2 := Pl.w K30_2.eq_1
def K30_3:C:=.seq (.pl <| .e 4 4 <|
 .a 4 1 <|
 .g 5 4 1 2 <|
 .c 6 (.call fn_laws_toFormulaS [.v 5]) K30_2) K30_1
@[simp] def W30_3 := C.w K30_3.eq_1
def K30_4:C:=.seq (.pl <| .e 4 3 <|
 .a 4 1 <|
 .g 5 4 1 1 <|
 .a 6 3 <|
 .o (.pset (some 6) 3 1 1 (.v 5)) .done) K30_3
@[simp] def W30_4 := C.w K30_4.eq_1
def K30_5:C:=.seq (.pl <| .e 4 3 <|
 .a 4 1 <|
 .g 5 4 1 0 <|
 .a 6 3 <|
 .o (.pset (some 6) 3 0 1 (.v 5)) .done) K30_4
@[simp] def W30_5 := C.w K30_5.eq_1
def K30_6:C:=.seq (.pl <| .e 4 0 <|
 .o (.pnew 3 (.c (.agg #[.int .i64 0,.int .i64 0,.slice none 0 0])) []) .done) K30_5
@[simp] def W30_6 := C.w K30_6.eq_1
def B_laws_toFormula:C:=.seq (.pl <| .e 4 0 <|
 .o (.pnew 1 (.v 0) []) <|
 .o (.pnew 2 (.c (.agg #[.int .i64 0,.int .i64 0,.slice none 0 0])) []) .done) K30_6
@[simp] def WB_laws_toFormula := C.w B_laws_toFormula.eq_1
def R_laws_toFormula:FIR:=⟨B_laws_toFormula,4,[(2,some (some 3))]⟩
theorem IR_laws_toFormula:cfun Tryz.prog H_laws_toFormula Tryz.f30=some R_laws_toFormula:=by kernel_rfl
theorem EN_laws_toFormula:ENT Tryz.prog B_laws_toFormula [(2,some (some 3))] 1 4 fn_laws_toFormula:=fun hargs hw=>enter Tryz.func30 rfl IR_laws_toFormula hargs hw
def H_laws_toFormulaS:Hint:=⟨[(0,false),(2,false),(3,false),(4,false)],[[1]]⟩
def K92_1:C:=.seq (.pl <| .e 4 1 <|
 .m 4 2 <|
 .m 1 4 .done) (.ret)
@[simp] def W92_1 := C.w K92_1.eq_1
def K92_2:C:=.pl <| .e 4 2 <|
 .m 4 3 <|
 .x 5 (.bin .add (.v 4) (.c (.int .i64 1))) <|
 .m 3 5 .done
@[simp] def W92_2 := C.w K92_2.eq_1
def K92_3:Pl:=.x 11 (.ia 3 (.v 4) (.v 5)) <|
 .o (.ex none (.store 3 (.v 11) (.v 10))) .done
@[simp] def W92_3 := Pl.w K92_3.eq_1
def K92_4:C:=.seq (.block 1 (.pl <| .e 4 8 <|
 .m 4 2 <|
 .m 5 3 <|
 .m 6 0 <|
 .m 7 3 <|
 .x 8 (.ia 3 (.v 6) (.v 7)) <|
 .o (.ld (some 9) (.v 8) (some 3)) <|
 .c 10 (.call fn_laws_toFormula [.v 9]) K92_3)) K92_2
@[simp] def W92_4 := C.w K92_4.eq_1
def K92_5:C:=.cond 4 (.v 7) (.skip) (.exit 0)
@[simp] def W92_5 := C.w K92_5.eq_1
def K92_6:C:=.seq (.seq (.pl <| .e 4 4 <|
 .m 4 3 <|
 .m 5 0 <|
 .x 6 (.lenV (.v 5)) <|
 .x 7 (.bin .lss (.v 4) (.v 6)) .done) K92_5) K92_4
@[simp] def W92_6 := C.w K92_6.eq_1
def K92_7:C:=.block 0 (.loop 4 [1] K92_6)
@[simp] def W92_7 := C.w K92_7.eq_1
def K92_8:C:=.seq (.seq (.pl <| .e 4 0 <|
 .x 3 (.mv (.c (.int .i64 0))) .done) K92_7) K92_1
@[simp] def W92_8 := C.w K92_8.eq_1
def K92_9:Pl:=.m 2 6 .done
@[simp] def W92_9 := Pl.w K92_9.eq_1
def K92_10:C:=.seq (.pl <| .e 4 3 <|
 .m 4 0 <|
 .x 5 (.lenV (.v 4)) <|
 .c 6 (.mks 40 3 [.int .i64 0,.int .i64 0,.slice none 0 0] (.v 5) (.v 5)) K92_9) K92_8
@[simp] def W92_10 := C.w K92_10.eq_1
def B_laws_toFormulaS:C:=.seq (.pl <| .e 4 0 <|
 .x 1 (.mv (.c (.slice none 0 0))) .done) K92_10
@[simp] def WB_laws_toFormulaS := C.w B_laws_toFormulaS.eq_1
def R_laws_toFormulaS:FIR:=⟨B_laws_toFormulaS,4,[(1,none)]⟩
theorem IR_laws_toFormulaS:cfun Tryz.prog H_laws_toFormulaS Tryz.f92=some R_laws_toFormulaS:=by kernel_rfl
theorem EN_laws_toFormulaS:ENT Tryz.prog B_laws_toFormulaS [(1,none)] 1 4 fn_laws_toFormulaS:=fun hargs hw=>enter Tryz.func92 rfl IR_laws_toFormulaS hargs hw
end Go.Proofs.YtbanccfdojgocaaGreat

namespace Go.Proofs.YtbanccfdojgocaaGreat
open Go
universe u
section
variable {α:Type} [Ty α] {h:Heap}{v:Value}
theorem Rep.X {l:List α}(hr:Rep h v l) {n:Nat}(hn:n=Ty.sz α):(∀(kd:IntKind) (i:Nat),i<l.length→iaV n v (.int kd i)=some (elp n v i))∧(∀(kd:IntKind) (i:Int),0≤i→i<l.length→iaV n v (.int kd i)=some (elp n v i.toNat))∧lenVV v=some (.int .i64 l.length):=
 ⟨fun _ _ h1=>hr.ian hn h1,fun _ _ h0 h1=>hr.ia' hn h0 h1,hr.len⟩
end
section
variable {h:Heap}{v:Value}
theorem Rep.I {l:List Int}(hr:Rep h v l):((∀(kd:IntKind) (i:Nat),i<l.length→iaV 1 v (.int kd i)=some (elp 1 v i))∧(∀(kd:IntKind) (i:Int),0≤i→i<l.length→iaV 1 v (.int kd i)=some (elp 1 v i.toNat))∧lenVV v=some (.int .i64 l.length)) ∧
  ∀(i:Nat) (hi:i<l.length),hload h (some (elp 1 v i)) none=some (.int .i64 l[i]):=⟨hr.X rfl,fun _ hi=>hr.ldI hi⟩
theorem Rep.B {l:List Bool}(hr:Rep h v l):((∀(kd:IntKind) (i:Nat),i<l.length→iaV 1 v (.int kd i)=some (elp 1 v i))∧(∀(kd:IntKind) (i:Int),0≤i→i<l.length→iaV 1 v (.int kd i)=some (elp 1 v i.toNat))∧lenVV v=some (.int .i64 l.length)) ∧
  ∀(i:Nat) (hi:i<l.length),hload h (some (elp 1 v i)) none=some (.bool l[i]):=⟨hr.X rfl,fun _ hi=>hr.ldB hi⟩
theorem Rep.S {l:List ByteArray}(hr:Rep h v l):((∀(kd:IntKind) (i:Nat),i<l.length→iaV 1 v (.int kd i)=some (elp 1 v i))∧(∀(kd:IntKind) (i:Int),0≤i→i<l.length→iaV 1 v (.int kd i)=some (elp 1 v i.toNat))∧lenVV v=some (.int .i64 l.length)) ∧
  ∀(i:Nat) (hi:i<l.length),hload h (some (elp 1 v i)) none=some (.string l[i]):=⟨hr.X rfl,fun _ hi=>hr.ldS hi⟩
theorem Rep.U {l:List (BitVec 64)}(hr:Rep h v l):((∀(kd:IntKind) (i:Nat),i<l.length→iaV 1 v (.int kd i)=some (elp 1 v i))∧(∀(kd:IntKind) (i:Int),0≤i→i<l.length→iaV 1 v (.int kd i)=some (elp 1 v i.toNat))∧lenVV v=some (.int .i64 l.length)) ∧
  ∀(i:Nat) (hi:i<l.length),hload h (some (elp 1 v i)) none=some (.int .u64 l[i].toNat):=⟨hr.X rfl,fun _ hi=>hr.ldU hi⟩
theorem Rep.ldL {α:Type} [Ty α] {l:List (List α)}(hr:Rep h v l) {i:Nat}(hi:i<l.length):∃u,hload h (some (elp 1 v i)) none=some u∧Rep h u l[i]:=hr.ld hi
end
theorem IteW.mkr {p A B:Prop}(h2:¬p→B) (h1:p→A):IteW p A B:=⟨h1,h2⟩
theorem wp_while {P:Program}{Q:Ex→Env→Heap→Prop}{e:Env}{h:Heap}{n:Nat}{fg:List Nat}{a:C}{σ:Type}(Enc:σ→Env→Heap→Prop) (m:σ→Nat) (s0:σ) (h0:Enc s0 (efgt (e.take n) fg) h)
  (hs:∀(J:Env→Heap→Prop) s e h,(∀s' e h,m s'<m s→Enc s' e h→J e h)→Enc s e h→a.wp P (loopQ n fg J Q) e h):(C.loop n fg a).wp P Q e h:=by
 refine wp_loop (fun k e h=>∃s,m s=k∧Enc s e h) ⟨_,s0,rfl,h0⟩ ?_
 rintro I' k e h hI ⟨s,rfl,hE⟩
 exact hs I' s e h (fun s' e h hlt hE=>hI (m s') e h hlt ⟨s',rfl,hE⟩) hE
theorem own1 {α:Type} [Ty α] (ha:Ty.agg α=false) {r:Heap}{cs:List Value}{x:α}:Ty.own r cs x↔∃v,cs=[v]∧Own r v x:=by
 constructor
 ·intro ho
  have hl:=Ty.len (Ty.own_rep ho)
  rw[Ty.one ha] at hl
  match cs,hl with
  | [v],_=>exact⟨v,rfl,[v],by simp[valC,ha],ho⟩
 ·rintro⟨v,rfl,c,h1,h2⟩
  have hl:=Ty.len (Ty.own_rep h2)
  rw[Ty.one ha] at hl
  match c,hl with
  | [u],_=>simp[valC,ha] at h1; subst h1; exact h2
theorem rep1 {α:Type} [Ty α] (ha:Ty.agg α=false) {r:Heap}{cs:List Value}{x:α}:Ty.rep r cs x↔∃v,cs=[v]∧Rep r v x:=by
 constructor
 ·intro ho
  have hl:=Ty.len ho
  rw[Ty.one ha] at hl
  match cs,hl with
  | [v],_=>exact⟨v,rfl,[v],by simp[valC,ha],ho⟩
 ·rintro⟨v,rfl,c,h1,h2⟩
  have hl:=Ty.len h2
  rw[Ty.one ha] at hl
  match c,hl with
  | [u],_=>simp[valC,ha] at h1; subst h1; exact h2
section
variable {α:Type} [Ty α] {h:Heap}{v:Value}{l:List α}{i:Nat}
theorem Rep.fld [Flat α] (hr:Rep h v l) (hi:i<l.length) {n j:Nat}(hn:n=Ty.sz α) {u:Value}(hj:(Flat.enc l[i])[j]? = some u):hload h (some (elpo n v i j)) none=some u:=by
 subst hn
 obtain⟨p,cap,rfl,hc,hp,hl⟩:=Rep_list.1 hr
 obtain⟨b,off,vs,rfl,h1,h2⟩:=hl i hi
 rw[← (Flat.rep_iff.1 h2).1] at hj
 have:=(hcells_get h1).2 j u hj
 simp[elpo,add_none,hload,this]
end
theorem Rep.A {α:Type} [Ty α] {h:Heap}{v:Value}{x:α}(hr:Rep h v x) (ha:Ty.agg α=true) {n:Nat}(hn:n=Ty.sz α):pgetV (some v) 0 (some n)=some v∧v.cells.size=n∧allOne v.cells.toList=true∧Value.agg v.cells=v:=by
 obtain⟨cs,rfl,h1⟩:=hr
 have h2:=Ty.len h1
 have h3:=Ty.cell h1
 subst hn
 simp only[valC,ha,if_true]
 refine⟨?_,by simpa using h2,?_,rfl⟩
 ·simp[h2]
 ·rw[← allOne_eq]; simpa using h3
def owC {α:Type} [Ty α] (cs:List Value) (x:α):HP:=fun r=>Ty.own r cs x
section
variable {g h:Heap}{Γ:List HP}
theorem HS.join2 {p p1 p2:HP}(H:HS g (p1::p2::Γ) h) (hp:∀r1 r2,Dj r1 r2→p1 r1→p2 r2→p (r1.add r2)):HS g (p::Γ) h:=by
 obtain⟨g1,r1,rfl,d1,h1,g',r2,rfl,d2,h2,H⟩:=H
 obtain⟨d3,d4⟩:=add_Dj.1 d1
 refine⟨g',r1.add r2,?_,Dj_add.2 ⟨d3,d2⟩,hp r1 r2 d4.symm h1 h2,H⟩
 rw[add_assoc,d4.comm]
theorem HS.via {α β:Type} [Ty β] (f:α→β) {cs:List Value}{x:α}(H:HS g (owC cs (f x)::Γ) h):HS g (@ow α (Ty.via f) (.agg cs.toArray) x::Γ) h:=
 H.imp fun _ ho=>⟨cs,rfl,ho⟩
theorem HS.one {α:Type} [Ty α] (ha:Ty.agg α=false) {v:Value}{x:α}(H:HS g (ow v x::Γ) h):HS g (owC [v] x::Γ) h:=H.imp fun _ ho=>(own1 ha).2 ⟨v,rfl,ho⟩
theorem HS.prod {α β:Type} [Ty α] [Ty β] (ha:Ty.agg α=false) {v:Value}{cs:List Value}{x:α}{y:β}(H:HS g (ow v x::owC cs y::Γ) h):HS g (owC (v::cs) (x,y)::Γ) h:=
 H.join2 fun r1 r2 d h1 h2=>⟨[v],cs,r1,r2,rfl,rfl,d,(own1 ha).2 ⟨v,rfl,h1⟩,h2⟩
end
class Sz (α:Type) where
 sz:α→Nat
instance:Sz Int:=⟨fun _=>0⟩
instance:Sz Bool:=⟨fun _=>0⟩
def szL {α:Type} [Sz α]:List α→Nat
 | []=>0
 | x::l=>Sz.sz x+szL l
instance instSzList {α:Type} [Sz α]:Sz (List α):=⟨fun l=>l.length+szL l⟩
theorem sz_list {α:Type} [Sz α] (l:List α):Sz.sz l=l.length+szL l:=rfl
theorem szL_get {α:Type} [Sz α]:∀{l:List α}{i:Nat}(hi:i<l.length),Sz.sz l[i]≤szL l
 | x::l,0,_=>by simp[szL]
 | x::l,i+1,hi=>by
  have:=szL_get (l:=l) (i:=i) (by simpa using hi)
  simp[szL]; omega
theorem szL_take {α:Type} [Sz α]:∀{l:List α}{i:Nat}(hi:i<l.length),szL (l.take (i+1))=szL (l.take i)+Sz.sz l[i]
 | x::l,0,_=>by simp[szL]
 | x::l,i+1,hi=>by
  have:=szL_take (l:=l) (i:=i) (by simpa using hi)
  simp[szL,this]; omega
theorem szL_zero {α:Type} [Sz α] (h0:∀x:α,Sz.sz x=0):∀l:List α,szL l=0
 | []=>rfl
 | x::l=>by simp[szL,h0,szL_zero h0 l]
class Mk (α:Type) where
 cnt:α→Nat
 wr:Int→α→α
 cnt_wr:∀k x,cnt (wr k x)=cnt x
 wr_wr:∀k j x,wr k (wr j x)=wr k x
def cntL {α:Type} [Mk α]:List α→Nat
 | []=>0
 | x::l=>Mk.cnt x+cntL l
def mkL {α:Type} [Mk α]:Int→List α→List α
 | _,[]=>[]
 | k,x::l=>Mk.wr k x::mkL (k+Mk.cnt x) l
section
variable {α:Type} [Mk α]
theorem cntL_mk:∀(k:Int) (l:List α),cntL (mkL k l)=cntL l
 | _,[]=>rfl
 | k,x::l=>by simp[cntL,mkL,Mk.cnt_wr,cntL_mk (k+Mk.cnt x) l]
theorem mkL_mk:∀(k j:Int) (l:List α),mkL k (mkL j l)=mkL k l
 | _,_,[]=>rfl
 | k,j,x::l=>by simp[mkL,Mk.cnt_wr,Mk.wr_wr,mkL_mk (k+Mk.cnt x) (j+Mk.cnt x) l]
@[simp] theorem mkL_length:∀(k:Int) (l:List α),(mkL k l).length=l.length
 | _,[]=>rfl
 | k,x::l=>by simp[mkL,mkL_length (k+Mk.cnt x) l]
theorem mkL_get:∀(k:Int) (l:List α) (i:Nat) (hi:i<l.length),(mkL k l)[i]'(by simpa using hi)=Mk.wr (k+cntL (l.take i)) l[i]
 | _,[],i,hi=>by simp at hi
 | k,x::l,0,_=>by simp[mkL,cntL]
 | k,x::l,i+1,hi=>by
  simp only[mkL,List.getElem_cons_succ,List.take_succ_cons,cntL]
  rw[mkL_get (k+Mk.cnt x) l i (by simpa using hi)]
  congr 1
  push_cast
  omega
theorem cntL_take:∀(l:List α) (i:Nat) (hi:i<l.length),cntL (l.take (i+1))=cntL (l.take i)+Mk.cnt l[i]
 | [],i,hi=>by simp at hi
 | x::l,0,_=>by simp[cntL]
 | x::l,i+1,hi=>by
  simp only[List.take_succ_cons,cntL,List.getElem_cons_succ]
  rw[cntL_take l i (by simpa using hi)]
  omega
theorem cntL_le:∀(l:List α) (i:Nat),cntL (l.take i)≤cntL l
 | [],i=>by simp[cntL]
 | x::l,0=>by simp[cntL]
 | x::l,i+1=>by
  simp only[List.take_succ_cons,cntL]
  have:=cntL_le l i
  omega
instance instMkList:Mk (List α):=⟨cntL,mkL,cntL_mk,mkL_mk⟩
end
instance instMkInt:Mk Int:=⟨fun _=>1,fun k _=>k,fun _ _=>rfl,fun _ _ _=>rfl⟩
instance instMkBool:Mk Bool:=⟨fun _=>1,fun k _=>decide (k.tmod 3=0),fun _ _=>rfl,fun _ _ _=>rfl⟩
structure Mkd {α:Type} [Mk α] (k:Int) (x y:List α) (i:Nat):Prop where
 len:y.length=x.length
 done:y.take i=(mkL k x).take i
 rest:y.drop i=x.drop i
section
variable {α:Type} [Mk α] {k:Int}{x y:List α}{i:Nat}
theorem Mkd.zero:Mkd k x x 0:=⟨rfl,rfl,rfl⟩
theorem Mkd.get (h:Mkd k x y i) (hi:i<x.length):y[i]'(by rw[h.len]; exact hi)=x[i]:=by
 have:=congrArg (fun l=>l[0]?) h.rest
 simp[List.getElem?_drop,hi,h.len] at this
 exact this
theorem Mkd.step (h:Mkd k x y i) (hi:i<x.length):Mkd k x (y.set i (Mk.wr (k+cntL (x.take i)) x[i])) (i+1):=by
 refine⟨by simp[h.len],?_,?_⟩
 ·have:=take_set_succ (x:=mkL k x) h.done (by simpa using hi) (by simpa using h.len)
  rwa [mkL_get k x i hi] at this
 ·rw[List.drop_set_of_lt (by omega)]
  have:=congrArg (List.drop 1) h.rest
  simpa[List.drop_drop] using this
theorem Mkd.all (h:Mkd k x y i) (hi:x.length≤i):y=mkL k x:=eq_of_take h.done (by simpa using hi) (by simpa using h.len)
end
theorem take_step {α:Type}{x y:List α}{i:Nat}(h:x.take i=y.take i) (h1:i<x.length) (h2:i<y.length) (he:x[i]=y[i]):x.take (i+1)=y.take (i+1):=by
 rw[List.take_add_one,List.take_add_one,h,List.getElem?_eq_getElem h1,List.getElem?_eq_getElem h2,he]
@[simp] theorem ite_lt_zero {α:Type}{b:Int}{x y:α}(h:0≤b):(if b<0 then x else y)=y:=if_neg (by omega)
def setB (a:BitVec 64) (j:Nat):BitVec 64:=a ||| (1#64 <<< j)
theorem one_bit {j i:Nat}(hj:j<64):(1#64 <<< j).getLsbD i=decide (i=j):=by
 rw[BitVec.getLsbD_shiftLeft,BitVec.getLsbD_one]
 by_cases h1:i=j
 ·subst h1; simp[hj]
 ·by_cases h2:i<j
  ·simp[h1,h2]
  ·have h3:¬(i-j=0):=by omega
   simp[h1,h3]
theorem setB_get {a:BitVec 64}{j i:Nat}(hj:j<64):(setB a j).getLsbD i=(a.getLsbD i || decide (i=j)):=by
 rw[setB,BitVec.getLsbD_or,one_bit hj]
structure W8 where
 l:List (BitVec 64)
 len:l.length=8
def W8.zero:W8:=⟨List.replicate 8 0,rfl⟩
def W8.put (w:W8) (j:Nat) (x:BitVec 64):W8:=⟨w.l.set j x,by simp[w.len]⟩
def W8.at (w:W8) (j:Nat):BitVec 64:=w.l.getD j 0
def W8.enc (w:W8):List Value:=w.l.map fun b=>.int .u64 b.toNat
instance instTyW8:Ty W8 where
 agg:=true
 sz:=8
 rep:=fun _ cs x=>cs=x.enc
 own:=fun r cs x=>r=Heap.nil∧cs=x.enc
 one:=fun h=>by simp at h
 len:=by rintro h cs x rfl; simp[W8.enc,x.len]
 cell:=by
  rintro h cs x rfl v hv
  simp only[W8.enc,List.mem_map] at hv
  obtain⟨b,_,rfl⟩:=hv
  rfl
 mono:=fun _ hr=>hr
 own_rep:=fun ho=>ho.2
instance instFlatW8:Flat W8:=⟨W8.enc,fun _=>True,by simp[Ty.rep],by simp[Ty.own]⟩
theorem W8.enc_at (w:W8) {j:Nat}(hj:j<8):w.enc[j]? = some (.int .u64 (w.at j).toNat):=by
 have:j<w.l.length:=by rw[w.len]; exact hj
 simp[W8.enc,W8.at,this]
theorem W8.put_at (w:W8) {j i:Nat}{x:BitVec 64}(hj:j<8):(w.put j x).at i=if i=j then x else w.at i:=by
 have:j<w.l.length:=by rw[w.len]; exact hj
 simp only[W8.at,W8.put,List.getD_eq_getElem?_getD,List.getElem?_set]
 split
 ·rename_i h; subst h; simp[this]
 ·rename_i h; rw[if_neg (fun h2=>h h2.symm)]
section
variable {α:Type} [Ty α] {h:Heap}{v:Value}{l:List α}{i:Nat}
theorem Rep.iaA (hr:Rep h v l) (hi:i<l.length) {n m:Nat}{kd:IntKind}{j:Nat}(hj:j<m):iaAV m 1 (elp n v i) (.int kd j)=some (elpo n v i j):=by
 obtain⟨p,cap,rfl,hc,hp,hl⟩:=Rep_list.1 hr
 obtain⟨b,off,vs,rfl,_⟩:=hl i hi
 have:(j:Int)<m:=by omega
 simp[iaAV,elp,elpo,this]
theorem Rep.W {l:List W8}(hr:Rep h v l):((∀(kd:IntKind) (i:Nat),i<l.length→iaV 8 v (.int kd i)=some (elp 8 v i))∧(∀(kd:IntKind) (i:Int),0≤i→i<l.length→iaV 8 v (.int kd i)=some (elp 8 v i.toNat))∧lenVV v=some (.int .i64 l.length)) ∧
  (∀(kd:IntKind) (i j:Nat),i<l.length→j<8→iaAV 8 1 (elp 8 v i) (.int kd j)=some (elpo 8 v i j)) ∧
  ∀(i j:Nat) (hi:i<l.length),j<8→hload h (some (elpo 8 v i j)) none=some (.int .u64 (l[i].at j).toNat):=
 ⟨hr.X rfl,fun _ _ _ hi hj=>hr.iaA hi hj,fun _ _ hi hj=>hr.fld hi rfl (W8.enc_at _ hj)⟩
end
theorem Rep.isNil {α:Type} [Ty α] {h:Heap}{v:Value}{l:List α}(hr:Rep h v l):∃b,isNilV false v=some (.bool b)∧(b=true→l=[]):=by
 obtain⟨p,cap,rfl,h1,h2,h3⟩:=Rep_list.1 hr
 refine⟨p.isNone,rfl,fun hp=>?_⟩
 cases l with
 | nil=>rfl
 | cons x l=>obtain⟨b,off,vs,h4,_⟩:=h3 0 (by simp); subst h4; simp at hp
theorem Own.clip {α:Type} [Ty α] {r:Heap}{v:Value}{l:List α}(O:Own r v l) {esz:Nat}{k:IntKind} :
  ∃v',sliceVV esz v none (some (some (.int k l.length))) (some (some (.int k l.length)))=some v'∧Own r v' l:=by
 rcases Own_list.1 O with ⟨p,rfl,rfl,rfl,hp⟩ | ⟨b,off,cap,cells,el,r',rfl,⟨h1,hM⟩,h2,rfl,h4,h5⟩
 ·refine⟨.slice p 0 0,?_,Own_list.2 (.inl ⟨p,rfl,rfl,rfl,hp⟩)⟩
  simp[sliceVV,bndV]
 ·refine⟨.slice (some ⟨b,off,none⟩) l.length l.length,?_,Own_list.2 (.inr ⟨b,off,l.length,cells,el,r',rfl,⟨Nat.le_refl _,hM⟩,?_,rfl,h4,h5⟩)⟩
  ·simp[sliceVV,bndV,add_none,h1]
  ·have:l.length*Ty.sz α≤cap*Ty.sz α:=Nat.mul_le_mul_right _ h1
   omega
theorem HS.clip {α:Type} [Ty α] {g h:Heap}{Γ:List HP}{v:Value}{l:List α}(H:HS g (ow v l::Γ) h) {esz:Nat}{k:IntKind} :
  ∃v',sliceVV esz v none (some (some (.int k l.length))) (some (some (.int k l.length)))=some v'∧HS g (ow v' l::Γ) h:=by
 obtain⟨g',r,rfl,d,O,H⟩:=H
 obtain⟨v',h1,O'⟩:=O.clip (esz:=esz) (k:=k)
 exact⟨v',h1,g',r,rfl,d,O',H⟩
theorem HS.bls0 {P:Program}{k:Env→Heap→Prop}{e:Env}{g h:Heap}{Γ:List HP}(H:HS g Γ h) (α:Type) [Ty α] {esz:Nat}{zero:List Value}{dst:Nat}
  (K:∀v' h',HS g (ow v' ([]:List α)::Γ) h'→k (eset e dst (some v')) h'):(A.ex (some dst) (.bls esz 0 zero [])).wp P k e h:=by
 refine⟨[],rfl,fun b el hb=>Fgt.keep ?_⟩
 rw[set_new hb]
 exact K _ _ ⟨h,_,rfl,Dj_one.2 hb,Own_list.2 (.inr ⟨b,0,0,[],el,Heap.nil,rfl,⟨Nat.le_refl _,by simp⟩,by simp,by simp,rfl,rfl⟩),H⟩
@[simp] theorem faV_ptr {b o off:Nat}:faV off (.pointer (some ⟨b,o,none⟩))=some (.pointer (some ⟨b,o+off,none⟩)):=by simp[faV,add_none]
attribute [simp] Option.bind_some
end Go.Proofs.YtbanccfdojgocaaGreat

namespace Go.Proofs.YtbanccfdojgocaaGreat
open Go
section
variable {g h:Heap}{Γ:List HP}
theorem HS.bk5 {a b c d f f':HP}(H:HS g (f'::a::b::c::d::f::Γ) h):HS g (a::b::c::d::f::f'::Γ) h:=H.sw5.sw5.sw5.sw5.sw5
theorem HS.bk6 {a b c d f f' f2:HP}(H:HS g (f2::a::b::c::d::f::f'::Γ) h):HS g (a::b::c::d::f::f'::f2::Γ) h:=H.sw6.sw6.sw6.sw6.sw6.sw6
theorem HS.sw7 {a b c d f f' f2 f3:HP}(H:HS g (a::b::c::d::f::f'::f2::f3::Γ) h):HS g (f3::a::b::c::d::f::f'::f2::Γ) h:=(H.under fun _=>HS.sw6).sw1
theorem HS.sw8 {a b c d f f' f2 f3 f4:HP}(H:HS g (a::b::c::d::f::f'::f2::f3::f4::Γ) h):HS g (f4::a::b::c::d::f::f'::f2::f3::Γ) h:=(H.under fun _=>HS.sw7).sw1
theorem HS.sw9 {a b c d f f' f2 f3 f4 f5:HP}(H:HS g (a::b::c::d::f::f'::f2::f3::f4::f5::Γ) h):HS g (f5::a::b::c::d::f::f'::f2::f3::f4::Γ) h:=(H.under fun _=>HS.sw8).sw1
theorem HS.sw10 {a b c d f f' f2 f3 f4 f5 f6:HP}(H:HS g (a::b::c::d::f::f'::f2::f3::f4::f5::f6::Γ) h):HS g (f6::a::b::c::d::f::f'::f2::f3::f4::f5::Γ) h:=(H.under fun _=>HS.sw9).sw1
theorem HS.sw11 {a b c d f f' f2 f3 f4 f5 f6 f7:HP}(H:HS g (a::b::c::d::f::f'::f2::f3::f4::f5::f6::f7::Γ) h):HS g (f7::a::b::c::d::f::f'::f2::f3::f4::f5::f6::Γ) h:=(H.under fun _=>HS.sw10).sw1
theorem HS.rebase:∀{Δ Γ:List HP}{h:Heap},HS g (Δ++Γ) h→∃g1,HS g Γ g1∧HS g1 Δ h
 | [],_,h,H=>⟨h,H,HS.init⟩
 | _::_,_,_,⟨g',r,e,d,hp,H⟩=>by
  obtain⟨g1,h1,h2⟩:=H.rebase
  exact⟨g1,h1,g',r,e,d,hp,h2⟩
end
def mpo {κ ν:Type}(kf:κ→Value) (vf:ν→Value) (b:Nat) (l:List (κ×ν)):HP:=fun r=>∃es clock,r=Heap.one b (.map es clock)∧es.toList.map (fun e=>(e.key,e.val))=l.map fun p=>(kf p.1,vf p.2)
def mlk {κ ν:Type} [DecidableEq κ] (l:List (κ×ν)) (a:κ):Option ν:=(l.find? fun p=>decide (p.1=a)).map (·.2)
theorem mlk_nil {κ ν:Type} [DecidableEq κ] {a:κ}:mlk ([]:List (κ×ν)) a=none:=rfl
theorem mlk_snoc {κ ν:Type} [DecidableEq κ] {l:List (κ×ν)}{a b:κ}{y:ν}(hn:mlk l a=none):mlk (l++[(a,y)]) b=if a=b then some y else mlk l b:=by
 unfold mlk at hn ⊢
 rw[List.find?_append]
 by_cases h:a=b
 ·subst h
  simp at hn
  rw[if_pos rfl,List.find?_eq_none.2 (by simpa using hn)]
  simp
 ·rw[if_neg h]
  simp[h]
theorem mfind_spec {κ ν:Type} [DecidableEq κ] {kf:κ→Value}{vf:ν→Value}{kt:KT}(hkt:∀a b,keyEq kt (kf a) (kf b)=some (decide (a=b))) {a:κ}:∀{es:List MapEntry}{l:List (κ×ν)}{i0:Nat},es.map (fun e=>(e.key,e.val))=l.map (fun p=>(kf p.1,vf p.2)) →
  ∃i,mfind kt (kf a) es i0=some ((mlk l a).map fun y=>(i,vf y))
 | [],[],_,_=>⟨0,rfl⟩
 | [],_::_,_,h=>by simp at h
 | _::_,[],_,h=>by simp at h
 | x::es,p::l,i0,h=>by
  simp only[List.map_cons,List.cons.injEq,Prod.mk.injEq] at h
  obtain⟨⟨h1,h2⟩,h3⟩:=h
  obtain⟨i,hi⟩:=mfind_spec hkt (a:=a) (i0:=i0+1) h3
  unfold mfind
  rw[h1,hkt,h2]
  by_cases he:a=p.1
  ·subst he
   refine⟨i0,?_⟩
   simp[mlk]
  ·refine⟨i,?_⟩
   simp only[he,decide_false]
   rw[hi]
   simp[mlk,List.find?_cons,Ne.symm he,show ¬p.1=a from fun e=>he e.symm]
section
variable {P:Program}{k:Env→Heap→Prop}{e:Env}{g h:Heap}{Γ:List HP}{κ ν:Type} [DecidableEq κ] {kf:κ→Value}{vf:ν→Value}{b:Nat}{l:List (κ×ν)}{kt:KT}
theorem HS.mkm (H:HS g Γ h) (kf:κ→Value) (vf:ν→Value) {dst:Nat}(K:∀b h',HS g (mpo kf vf b []::Γ) h'→k (eset e dst (some (.map (some b)))) h'):(A.ex (some dst) .mkm).wp P k e h:=by
 intro b hb
 refine Fgt.keep ?_
 rw[set_new hb]
 exact K _ _ ⟨h,_,rfl,Dj_one.2 hb,⟨_,_,rfl,rfl⟩,H⟩
theorem HS.mget (H:HS g (mpo kf vf b l::Γ) h) {zero:Value}{ok:Bool}{m x:O}{a:κ}{dst:Nat}(hm:m.get e=some (.map (some b))) (hx:x.get e=some (kf a)) (hkt:∀a b,keyEq kt (kf a) (kf b)=some (decide (a=b)))
  (K:k (eset e dst (some (if ok then .tuple #[((mlk l a).map vf).getD zero,.bool (mlk l a).isSome] else ((mlk l a).map vf).getD zero))) h):(A.ex (some dst) (.mget kt zero ok m x)).wp P k e h:=by
 obtain⟨g',r,rfl,d,⟨es,clock,rfl,hes⟩,H⟩:=H
 obtain⟨i,hi⟩:=mfind_spec hkt (a:=a) (i0:=0) hes
 refine⟨b,es,clock,kf a,_,hm,le_add' d _ _ (by simp[Heap.one]),hx,by rw[hkt]; rfl,hi,Fgt.keep ?_⟩
 cases hl:mlk l a with
 | none=>rw[hl] at K; cases ok <;> exact K
 | some y=>rw[hl] at K; cases ok <;> exact K
theorem HS.mput (H:HS g (mpo kf vf b l::Γ) h) {m x y:O}{a:κ}{v:ν}(hm:m.get e=some (.map (some b))) (hx:x.get e=some (kf a)) (hy:y.get e=some (vf v)) (hkt:∀a b,keyEq kt (kf a) (kf b)=some (decide (a=b))) (hn:mlk l a=none)
  (K:∀h',HS g (mpo kf vf b (l++[(a,v)])::Γ) h'→k e h'):(A.ex none (.mput kt m x y)).wp P k e h:=by
 obtain⟨g',r,rfl,d,⟨es,clock,rfl,hes⟩,H⟩:=H
 obtain⟨i,hi⟩:=mfind_spec hkt (a:=a) (i0:=0) hes
 rw[hn] at hi
 refine⟨b,es,clock,kf a,vf v,none,hm,le_add' d _ _ (by simp[Heap.one]),hx,hy,by rw[hkt]; rfl,hi,Fgt.keep ?_⟩
 refine K _ ⟨g',Heap.one b (.map (es.push { key:=kf a,val:=vf v,born:=clock }) (clock+1)),?_,?_,⟨_,_,rfl,?_⟩,H⟩
 ·have hb:=Dj_one.1 d
  rw[← set_new hb]
  rw[← set_new hb]
  funext z
  simp only[Heap.set]
  split <;> rfl
 ·exact Dj_one.2 (Dj_one.1 d)
 ·simp[hes]
theorem HS.mlen (H:HS g (mpo kf vf b l::Γ) h) {m:O}{dst:Nat}(hm:m.get e=some (.map (some b))) (K:k (eset e dst (some (.int .i64 l.length))) h):(A.ex (some dst) (.mlen m)).wp P k e h:=by
 obtain⟨g',r,rfl,d,⟨es,clock,rfl,hes⟩,H⟩:=H
 have hl:es.size=l.length:=by
  have:=congrArg List.length hes
  simpa using this
 refine⟨b,es,clock,hm,le_add' d _ _ (by simp[Heap.one]),Fgt.keep ?_⟩
 rw[hl]
 exact K
end
theorem keyEq_int:∀a b:Int,keyEq (.one .i) (.int .i64 a) (.int .i64 b)=some (decide (a=b)):=by
 intro a b
 simp[keyEq,eqB]
end Go.Proofs.YtbanccfdojgocaaGreat

namespace Go.Proofs.YtbanccfdojgocaaGreat
open Go
section
variable {α:Type}
theorem repL_map {t t':Ty α}{h:Heap}{p:Option Addr}{l:List α}(hs:t.sz=t'.sz) (hr:∀cs x,x∈l→t.rep h cs x→t'.rep h cs x) (H:@repL α t h p l):@repL α t' h p l:=by
 intro i hi
 obtain⟨b,off,vs,h1,h2,h3⟩:=H i hi
 refine⟨b,off,vs,h1,?_,hr _ _ (List.getElem_mem hi) h3⟩
 have h2:hcells h b (off+i*t.sz) t.sz=some vs:=h2
 show hcells h b (off+i*t'.sz) t'.sz=some vs
 rw[← hs]; exact h2
theorem repS_map {t t':Ty α}{h:Heap}{cs:List Value}{l:List α}(hs:t.sz=t'.sz) (hr:∀cs x,x∈l→t.rep h cs x→t'.rep h cs x) (H:@repS α t h cs l):@repS α t' h cs l:=by
 obtain⟨p,cap,h1,h2,h3,h4⟩:=H
 exact⟨p,cap,h1,h2,h3,repL_map hs hr h4⟩
theorem ownL_map {t t':Ty α}(hs:t.sz=t'.sz):∀{l:List α}{cs:List Value}{r:Heap},(∀r cs x,x∈l→t.own r cs x→t'.own r cs x)→@ownL α t l cs r→@ownL α t' l cs r
 | [],_,_,_,H=>H
 | x::l,cs,r,ho,⟨r1,r2,h1,h2,h3,h4⟩=>by
  refine⟨r1,r2,h1,h2,?_,?_⟩
  ·have:=ho r1 _ x (by simp) h3
   show t'.own r1 (cs.take t'.sz) x
   rw[← hs]; exact this
  ·have:=ownL_map hs (fun r cs x hx=>ho r cs x (by simp[hx])) h4
   show @ownL α t' l (cs.drop t'.sz) r2
   rw[← hs]; exact this
theorem ownS_map {t t':Ty α}(hs:t.sz=t'.sz) {l:List α}{cs:List Value}{r:Heap}(ho:∀r cs x,x∈l→t.own r cs x→t'.own r cs x) (H:@ownS α t r cs l):@ownS α t' r cs l:=by
 rcases H with h1 | ⟨b,off,cap,cells,el,r',h1,h2,h3,h4,h5,h6⟩
 ·exact .inl h1
 ·refine .inr ⟨b,off,cap,cells,el,r',h1,h2,?_,h4,h5,ownL_map hs ho h6⟩
  have h3:off+cap*t.sz≤cells.length:=h3
  show off+cap*t'.sz≤cells.length
  rw[← hs]; exact h3
end
theorem exists_max {P:Nat→Nat→Prop}(hu:∀i n,P i n→P i (n+1)):∀m,(∀i,i<m→∃n,P i n)→∃N,∀i,i<m→P i N
 | 0,_=>⟨0,fun i hi=>absurd hi (Nat.not_lt_zero i)⟩
 | m+1,h=>by
  have up:∀i n k,P i n→P i (n+k):=by
   intro i n k hp
   induction k with
   | zero=>exact hp
   | succ k ih=>exact hu _ _ ih
  obtain⟨N,hN⟩:=exists_max hu m fun i hi=>h i (by omega)
  obtain⟨M,hM⟩:=h m (by omega)
  refine⟨N+M,fun i hi=>?_⟩
  by_cases e:i=m
  ·subst e; rw[Nat.add_comm]; exact up _ _ _ hM
  ·exact up _ _ _ (hN i (by omega))
inductive Exq where
 | mk (kind val:Int) (kids:List Exq)
namespace Exq
def kind:Exq→Int | .mk k _ _=>k
def val:Exq→Int | .mk _ v _=>v
def kids:Exq→List Exq | .mk _ _ l=>l
@[simp] theorem kind_mk {k v:Int}{l:List Exq}:(Exq.mk k v l).kind=k:=rfl
@[simp] theorem val_mk {k v:Int}{l:List Exq}:(Exq.mk k v l).val=v:=rfl
@[simp] theorem kids_mk {k v:Int}{l:List Exq}:(Exq.mk k v l).kids=l:=rfl
theorem ext_iff' {a b:Exq}:a=b↔a.kind=b.kind∧a.val=b.val∧a.kids=b.kids:=by
 cases a; cases b; simp
theorem ind {p:Exq→Prop}(h:∀x:Exq,(∀y∈x.kids,p y)→p x):∀x,p x
 | .mk k v l=>h _ fun y hy=>ind h y
termination_by x=>SizeOf.sizeOf x
decreasing_by
 have h1:y∈l:=hy
 have:=List.sizeOf_lt_of_mem h1
 simp only[Exq.mk.sizeOf_spec]
 omega
def tup (x:Exq):Int×Int×List Exq:=(x.kind,x.val,x.kids)
@[reducible] def T0:Ty Exq where
 agg:=true
 sz:=3
 rep:=fun _ _ _=>False
 own:=fun _ _ _=>False
 one:=fun h=>by simp at h
 len:=fun h=>h.elim
 cell:=fun h=>h.elim
 mono:=fun _ h=>h
 own_rep:=fun h=>h.elim
@[reducible] def tyTup (t:Ty Exq):Ty (Int×Int×List Exq):=@instTyProd Int (Int×List Exq) instTyInt (@instTyProd Int (List Exq) instTyInt (@instTyList Exq t))
@[reducible] def T:Nat→Ty Exq
 | 0=>T0
 | n+1=>@Ty.via Exq (Int×Int×List Exq) (tyTup (T n)) tup
theorem T_sz:∀n,(T n).sz=3
 | 0=>rfl
 | _+1=>rfl
theorem tup_rep {t t':Ty Exq}(hs:t.sz=t'.sz) {h:Heap}{cs:List Value}{x:Exq}(hr:∀cs y,y∈x.kids→t.rep h cs y→t'.rep h cs y) (H:(tyTup t).rep h cs x.tup):(tyTup t').rep h cs x.tup:=by
 obtain⟨c1,c2,e1,h1,c3,c4,e2,h2,h3⟩:=H
 exact⟨c1,c2,e1,h1,c3,c4,e2,h2,repS_map hs hr h3⟩
theorem tup_own {t t':Ty Exq}(hs:t.sz=t'.sz) {r:Heap}{cs:List Value}{x:Exq}(hr:∀r cs y,y∈x.kids→t.own r cs y→t'.own r cs y) (H:(tyTup t).own r cs x.tup):(tyTup t').own r cs x.tup:=by
 obtain⟨c1,c2,r1,r2,e1,e2,d1,h1,c3,c4,r3,r4,e3,e4,d2,h2,h3⟩:=H
 exact⟨c1,c2,r1,r2,e1,e2,d1,h1,c3,c4,r3,r4,e3,e4,d2,h2,ownS_map hs hr h3⟩
theorem rep_up:∀(n:Nat) {h:Heap}{cs:List Value}{x:Exq},(T n).rep h cs x→(T (n+1)).rep h cs x
 | 0,_,_,_,H=>H.elim
 | n+1,h,cs,x,H=>tup_rep (t:=T n) (t':=T (n+1)) (by rw[T_sz,T_sz]) (fun _ _ _=>rep_up n) H
theorem own_up:∀(n:Nat) {r:Heap}{cs:List Value}{x:Exq},(T n).own r cs x→(T (n+1)).own r cs x
 | 0,_,_,_,H=>H.elim
 | n+1,h,cs,x,H=>tup_own (t:=T n) (t':=T (n+1)) (by rw[T_sz,T_sz]) (fun _ _ _ _=>own_up n) H
theorem own_le {n m:Nat}(hle:n≤m) {r:Heap}{cs:List Value}{x:Exq}(H:(T n).own r cs x):(T m).own r cs x:=by
 obtain⟨k,rfl⟩:=Nat.exists_eq_add_of_le hle
 induction k with
 | zero=>exact H
 | succ k ih=>exact own_up _ (ih (by omega))
end Exq
instance instTyExq:Ty Exq where
 agg:=true
 sz:=3
 rep:=fun h cs x=>∃n,(Exq.T n).rep h cs x
 own:=fun r cs x=>∃n,(Exq.T n).own r cs x
 one:=fun h=>by simp at h
 len:=fun ⟨n,h⟩=>((Exq.T n).len h).trans (Exq.T_sz n)
 cell:=fun ⟨n,h⟩=>(Exq.T n).cell h
 mono:=fun hl ⟨n,h⟩=>⟨n,(Exq.T n).mono hl h⟩
 own_rep:=fun ⟨n,h⟩=>⟨n,(Exq.T n).own_rep h⟩
namespace Exq
theorem rep_iff {h:Heap}{cs:List Value}{x:Exq}:Ty.rep h cs x↔Ty.rep h cs x.tup:=by
 constructor
 ·rintro⟨n,H⟩
  cases n with
  | zero=>exact H.elim
  | succ n=>exact tup_rep (t:=T n) (t':=instTyExq) (T_sz n) (fun _ _ _ h=>⟨n,h⟩) H
 ·rintro⟨c1,c2,e1,h1,c3,c4,e2,h2,p,cap,e3,h3,h4,hl⟩
  have hl:∀i,i<x.kids.length→∃n,∃(hi:i<x.kids.length),∃b off vs,p=some ⟨b,off,none⟩∧hcells h b (off+i*3) 3=some vs∧(T n).rep h vs x.kids[i]:=by
   intro i hi
   obtain⟨b,off,vs,g1,g2,n,g3⟩:=hl i hi
   exact⟨n,hi,b,off,vs,g1,g2,g3⟩
  obtain⟨N,hN⟩:=exists_max (P:=fun i n=>∃(hi:i<x.kids.length),∃b off vs,p=some ⟨b,off,none⟩∧hcells h b (off+i*3) 3=some vs∧(T n).rep h vs x.kids[i]) (fun i n ⟨hi,b,off,vs,g1,g2,g3⟩=>⟨hi,b,off,vs,g1,g2,rep_up n g3⟩) _ hl
  refine⟨N+1,c1,c2,e1,h1,c3,c4,e2,h2,p,cap,e3,h3,h4,fun i hi=>?_⟩
  obtain⟨_,b,off,vs,g1,g2,g3⟩:=hN i hi
  refine⟨b,off,vs,g1,?_,g3⟩
  show hcells h b (off+i*(T N).sz) (T N).sz=some vs
  rw[T_sz]; exact g2
theorem ownL_max:∀{l:List Exq}{cs:List Value}{r:Heap},ownL l cs r→∃N,@ownL Exq (T N) l cs r
 | [],_,_,H=>⟨0,H⟩
 | x::l,cs,r,⟨r1,r2,h1,h2,⟨n,h3⟩,h4⟩=>by
  obtain⟨N,h5⟩:=ownL_max h4
  refine⟨n+N,r1,r2,h1,h2,?_,?_⟩
  ·show (T (n+N)).own r1 (cs.take (T (n+N)).sz) x
   rw[T_sz]; exact own_le (by omega) h3
  ·show @ownL Exq (T (n+N)) l (cs.drop (T (n+N)).sz) r2
   rw[T_sz]; exact ownL_map (t:=T N) (t':=T (n+N)) (by rw[T_sz,T_sz]) (fun _ _ _ _=>own_le (by omega)) h5
theorem own_iff {r:Heap}{cs:List Value}{x:Exq}:Ty.own r cs x↔Ty.own r cs x.tup:=by
 constructor
 ·rintro⟨n,H⟩
  cases n with
  | zero=>exact H.elim
  | succ n=>exact tup_own (t:=T n) (t':=instTyExq) (T_sz n) (fun _ _ _ _ h=>⟨n,h⟩) H
 ·rintro⟨c1,c2,r1,r2,e1,e2,d1,h1,c3,c4,r3,r4,e3,e4,d2,h2,h3⟩
  rcases h3 with h3 | ⟨b,off,cap,cells,el,r',g1,g2,g3,g4,g5,g6⟩
  ·exact⟨1,c1,c2,r1,r2,e1,e2,d1,h1,c3,c4,r3,r4,e3,e4,d2,h2,.inl h3⟩
  ·obtain⟨N,h7⟩:=ownL_max g6
   refine⟨N+1,c1,c2,r1,r2,e1,e2,d1,h1,c3,c4,r3,r4,e3,e4,d2,h2,.inr ⟨b,off,cap,cells,el,r',g1,g2,?_,g4,g5,h7⟩⟩
   show off+cap*(T N).sz≤cells.length
   rw[T_sz]; exact g3
end Exq
def I64 (n:Int):Prop:=-9223372036854775808≤n∧n<9223372036854775808
theorem I64.lo {n:Int}(h:I64 n):-9223372036854775808≤n:=h.1
theorem I64.hi {n:Int}(h:I64 n):n<9223372036854775808:=h.2
section
variable {g h r:Heap}{Γ:List HP}{v:Value}{cs:List Value}
theorem repExq {x:Exq}:Ty.rep h cs x↔∃w,cs=[.int .i64 x.kind,.int .i64 x.val,w]∧I64 x.kind∧I64 x.val∧Rep h w x.kids:=by
 rw[Exq.rep_iff]
 constructor
 ·rintro⟨c1,c2,rfl,⟨rfl,h1⟩,c3,c4,rfl,⟨rfl,h2⟩,h3⟩
  obtain⟨w,rfl,h4⟩:=(rep1 (α:=List Exq) rfl).1 h3
  exact⟨w,rfl,h1,h2,h4⟩
 ·rintro⟨w,rfl,h1,h2,h3⟩
  exact⟨[_],[_,_],rfl,⟨rfl,h1⟩,[_],[_],rfl,⟨rfl,h2⟩,(rep1 (α:=List Exq) rfl).2 ⟨w,rfl,h3⟩⟩
theorem ownExq {x:Exq}:Ty.own r cs x↔∃w,cs=[.int .i64 x.kind,.int .i64 x.val,w]∧I64 x.kind∧I64 x.val∧Own r w x.kids:=by
 rw[Exq.own_iff]
 constructor
 ·rintro⟨c1,c2,r1,r2,rfl,rfl,d1,⟨rfl,rfl,h1⟩,c3,c4,r3,r4,rfl,rfl,d2,⟨rfl,rfl,h2⟩,h3⟩
  obtain⟨w,rfl,h4⟩:=(own1 (α:=List Exq) rfl).1 h3
  exact⟨w,rfl,h1,h2,by rw[nil_add,nil_add]; exact h4⟩
 ·rintro⟨w,rfl,h1,h2,h3⟩
  exact⟨[_],[_,_],Heap.nil,r,rfl,by simp,by simp,⟨rfl,rfl,h1⟩,[_],[_],Heap.nil,r,rfl,by simp,by simp,⟨rfl,rfl,h2⟩,(own1 (α:=List Exq) rfl).2 ⟨w,rfl,h3⟩⟩
theorem Rep_Exq {x:Exq}:Rep h v x↔∃w,v=.agg #[.int .i64 x.kind,.int .i64 x.val,w]∧I64 x.kind∧I64 x.val∧Rep h w x.kids:=by
 constructor
 ·rintro⟨cs,rfl,H⟩
  obtain⟨w,rfl,h1⟩:=repExq.1 H
  exact⟨w,rfl,h1⟩
 ·rintro⟨w,rfl,h1⟩
  exact⟨_,rfl,repExq.2 ⟨w,rfl,h1⟩⟩
theorem HS.unExq {x:Exq}(H:HS g (ow v x::Γ) h):∃w,v=.agg #[.int .i64 x.kind,.int .i64 x.val,w]∧I64 x.kind∧I64 x.val∧HS g (ow w x.kids::Γ) h:=by
 obtain⟨g',r,rfl,d,⟨cs,rfl,O⟩,H⟩:=H
 obtain⟨w,rfl,h1,h2,h3⟩:=ownExq.1 O
 exact⟨w,rfl,h1,h2,g',r,rfl,d,h3,H⟩
theorem HS.mkExq {x:Exq}{w:Value}(H:HS g (ow w x.kids::Γ) h) (h1:I64 x.kind) (h2:I64 x.val):HS g (ow (.agg #[.int .i64 x.kind,.int .i64 x.val,w]) x::Γ) h:=
 H.imp fun _ O=>⟨_,rfl,ownExq.2 ⟨w,rfl,h1,h2,O⟩⟩
theorem HS.mkExq' {kd vl:Int}{l:List Exq}{w:Value}(H:HS g (ow w l::Γ) h) (h1:I64 kd) (h2:I64 vl):HS g (ow (.agg #[.int .i64 kd,.int .i64 vl,w]) (Exq.mk kd vl l)::Γ) h:=
 HS.mkExq (x:=Exq.mk kd vl l) H h1 h2
theorem Rep.aExq {x:Exq}(hr:Rep h v x):pgetV (some v) 0 (some 3)=some v∧v.cells.size=3∧allOne v.cells.toList=true∧Value.agg v.cells=v:=hr.A rfl rfl
end
noncomputable instance:DecidableEq Exq:=fun _ _=>Classical.propDecidable _
structure Ed where
 frm:Int
 to:Int
 guard:Exq
 var:Int
 value:Exq
 sync:Int
instance instTyEd:Ty Ed:=Ty.via fun (e:Ed)=>(e.frm,e.to,e.guard,e.var,e.value,e.sync)
noncomputable instance:DecidableEq Ed:=fun _ _=>Classical.propDecidable _
structure Pr where
 locs:Int
 edges:List Ed
instance instTyPr:Ty Pr:=Ty.via fun (p:Pr)=>(p.locs,p.edges)
noncomputable instance:DecidableEq Pr:=fun _ _=>Classical.propDecidable _
structure Sy where
 init:List Int
 procs:List Pr
instance instTySy:Ty Sy:=Ty.via fun (s:Sy)=>(s.init,s.procs)
noncomputable instance:DecidableEq Sy:=fun _ _=>Classical.propDecidable _
theorem Ed.ext_iff' {a b:Ed}:a=b↔a.frm=b.frm∧a.to=b.to∧a.guard=b.guard∧a.var=b.var∧a.value=b.value∧a.sync=b.sync:=by
 cases a; cases b; simp
theorem Pr.ext_iff' {a b:Pr}:a=b↔a.locs=b.locs∧a.edges=b.edges:=by
 cases a; cases b; simp
theorem Sy.ext_iff' {a b:Sy}:a=b↔a.init=b.init∧a.procs=b.procs:=by
 cases a; cases b; simp
def Ed.cs (e:Ed) (w1 w2:Value):List Value:=[.int .i64 e.frm,.int .i64 e.to,.int .i64 e.guard.kind,.int .i64 e.guard.val,w1,.int .i64 e.var,.int .i64 e.value.kind,.int .i64 e.value.val,w2,.int .i64 e.sync]
structure Ed.ok (e:Ed):Prop where
 frm:I64 e.frm
 to:I64 e.to
 gk:I64 e.guard.kind
 gv:I64 e.guard.val
 var:I64 e.var
 vk:I64 e.value.kind
 vv:I64 e.value.val
 sync:I64 e.sync
section
variable {g h r:Heap}{Γ:List HP}{v:Value}{cs:List Value}
end
end Go.Proofs.YtbanccfdojgocaaGreat

namespace Go.Proofs.YtbanccfdojgocaaGreat
open Go
theorem setC_get {cs c:List Value}{n j:Nat}(h:n+c.length≤cs.length):(setC cs n c)[j]? = if j<n then cs[j]? else if j<n+c.length then c[j-n]? else cs[j]?:=by
 unfold setC
 simp only[List.getElem?_append,List.getElem?_take,List.getElem?_drop,List.length_append,List.length_take]
 rw[Nat.min_eq_left (by omega:n≤cs.length)]
 by_cases h1:j<n
 ·rw[if_pos (by omega),if_pos h1,if_pos h1,if_pos h1]
 ·by_cases h2:j<n+c.length
  ·rw[if_pos h2,if_neg h1,if_neg h1,if_pos h2]
  ·rw[if_neg h2,if_neg h1,if_neg h2]
   congr 1; omega
theorem setC_over {cs d c:List Value}{n fo:Nat}(hd:fo+d.length≤c.length) (hl:n+c.length≤cs.length):setC (setC cs (n+fo) d) n c=setC cs n c:=by
 apply List.ext_getElem?
 intro j
 rw[setC_get (by rw[setC_length (by omega)]; exact hl),setC_get hl,setC_get (by omega)]
 by_cases h1:j<n
 ·rw[if_pos h1,if_pos h1,if_pos (by omega)]
 ·by_cases h2:j<n+c.length
  ·rw[if_neg h1,if_neg h1,if_pos h2,if_pos h2]
  ·rw[if_neg h1,if_neg h1,if_neg h2,if_neg h2,if_neg (by omega),if_neg (by omega)]
theorem setC_slot {cs d:List Value}{n fo m:Nat}(hd:fo+d.length≤m) (hl:n+m≤cs.length):((setC cs (n+fo) d).drop n).take m=setC ((cs.drop n).take m) fo d:=by
 apply List.ext_getElem?
 intro j
 rw[setC_get (by simp; omega)]
 simp only[List.getElem?_take,List.getElem?_drop]
 by_cases h1:j<m
 ·rw[if_pos h1,if_pos h1,setC_get (by omega)]
  by_cases h2:j<fo
  ·rw[if_pos (by omega),if_pos h2]
  ·by_cases h3:j<fo+d.length
   ·rw[if_neg (by omega),if_pos (by omega),if_neg h2,if_pos h3]
    congr 1; omega
   ·rw[if_neg (by omega),if_neg (by omega),if_neg h2,if_neg h3]
 ·rw[if_neg h1,if_neg h1,if_neg (by omega),if_neg (by omega)]
section
variable {α:Type} [Ty α] {P:Program}{k:Env→Heap→Prop}{e:Env}{g h:Heap}{Γ:List HP}{v w:Value}{l:List α}{i:Nat}{cs:List Value}
theorem HS.holest (H:HS g (hole v l i (.agg cs.toArray)::Γ) h) (ha:Ty.agg α=true) {a x:O}{n fo m:Nat}(hn:n=Ty.sz α) (hp:a.get e=some (elpo n v i fo)) (hx:x.get e=some w) (hu:w.cells.size=m) (hu1:allOne w.cells.toList=true) (hf:fo+m≤n)
  (K:∀h',HS g (hole v l i (.agg (setC cs fo w.cells.toList).toArray)::Γ) h'→k e h'):(A.ex none (.store m a x)).wp P k e h:=by
 subst hn
 obtain⟨g',r,rfl,d,Ho,H⟩:=H
 obtain⟨b,off,cap,cells,el,r',rfl,hi,⟨h1,hM⟩,h2,rfl,h4,h5,h6⟩:=Ho
 have hs:=slot_le (s:=Ty.sz α) hi h1
 obtain⟨d3,d4⟩:=Dj_add.1 d
 have hb:(g'.add ((Heap.one b (.cells cells.toArray el (0,0))).add r')) b=some (.cells cells.toArray el (0,0)):=by
  have:=Dj_one.1 d3
  simp[Heap.add,Heap.one,this,h4]
 have hw:w.cells.toList.length=m:=by simpa using hu
 have hcs:cs=((cells.drop off).drop (i*Ty.sz α)).take (Ty.sz α):=by
  simpa[valC,ha] using h5
 have hdr:(setC cells (off+i*Ty.sz α+fo) w.cells.toList).drop off=setC (cells.drop off) (i*Ty.sz α+fo) w.cells.toList:=by
  rw[Nat.add_assoc,drop_setC (by rw[hw]; omega)]
 refine⟨b,off+i*Ty.sz α+fo,w,g'.add ((Heap.one b (.cells (setC cells (off+i*Ty.sz α+fo) w.cells.toList).toArray el (0,0))).add r'),?_,hx,hu,?_,
  Fgt.keep (K _ ⟨g',_,rfl,Dj_add.2 ⟨Dj_one.2 (Dj_one.1 d3),d4⟩,⟨b,off,cap,_,el,r',rfl,hi,⟨h1,hM⟩,?_,rfl,h4,?_,?_⟩,H⟩)⟩
 ·rw[hp]; simp[elpo,add_none]
 ·unfold hstore
  rw[hb]
  simp only
  rw[if_pos (by refine⟨trivial,?_,?_⟩; · simp[hu]; omega
                ·rw[allOne_eq]; exact hu1),add_one_set (Dj_one.1 d3) h4]
 ·rw[setC_length (by rw[hw]; omega)]; exact h2
 ·rw[hdr,setC_slot (by rw[hw]; exact hf) (by simp; omega),← hcs]
  simp[valC,ha]
 ·intro r1' c' y dd o
  have hlen:=Ty.len (Ty.own_rep o)
  rw[hdr,setC_over (by rw[hw,hlen]; exact hf) (by rw[hlen]; simp; omega)]
  exact h6 r1' c' y dd o
theorem hld_parts {n:Nat}(hv:hload h (some (elp n v i)) (some n)=some (.agg cs.toArray)):(∀fo,faV fo (elp n v i)=some (elpo n v i fo))∧(∀a b,faV b (elpo n v i a)=some (elpo n v i (a+b))) ∧
  (∀fo,fo<n→hload h (some (elpo n v i fo)) none=cs[fo]?)∧(∀fo m,fo+m≤n→hload h (some (elpo n v i fo)) (some m)=some (.agg ((cs.drop fo).take m).toArray)):=by
 unfold elp at hv
 split at hv
 case h_2=>simp[undef,hload] at hv
 case h_1 p c d=>
  have hz:∃b off,p.add (i*n)=⟨b,off,none⟩:=by
   generalize hq:p.add (i*n)=q at hv
   obtain⟨b,off,sp⟩:=q
   cases sp with
   | none=>exact⟨b,off,rfl⟩
   | some s=>simp[hload] at hv
  obtain⟨b,off,hz⟩:=hz
  rw[hz] at hv
  simp only[hload,Option.map_eq_some_iff] at hv
  obtain⟨l,h1,h2⟩:=hv
  have h2:l=cs:=by simpa using h2
  subst h2
  have h3:=hcells_get h1
  have hsub:∀m fo,fo+m≤n→hcells h b (off+fo) m=some ((l.drop fo).take m):=by
   intro m
   induction m with
   | zero=>intro fo _; simp[hcells]
   | succ m ih=>
    intro fo hf
    have h4:=ih (fo+1) (by omega)
    have h5:=h3.2 fo (l[fo]'(by rw[h3.1]; omega)) (List.getElem?_eq_getElem _)
    simp only[hcells,h5]
    rw[show off+fo+1=off+(fo+1) by omega,h4]
    simp only[Option.some.injEq]
    rw[List.drop_eq_getElem_cons (by rw[h3.1]; omega:fo<l.length),List.take_succ_cons]
  refine⟨fun fo=>?_,fun a c=>?_,fun fo hf=>?_,fun fo m hf=>?_⟩
  ·simp only[elp,elpo,hz,add_none,faV]
  ·simp only[elpo,hz,add_none,faV]
   simp[Nat.add_assoc]
  ·have h5:=h3.2 fo (l[fo]'(by rw[h3.1]; omega)) (List.getElem?_eq_getElem _)
   simp only[elpo,hz,add_none,hload,h5]
   exact (List.getElem?_eq_getElem _).symm
  ·simp only[elpo,hz,add_none,hload,hsub m fo hf]
   rfl
theorem HS.holeP (H:HS g (hole v l i (.agg cs.toArray)::Γ) h) (ha:Ty.agg α=true) {n:Nat}(hn:n=Ty.sz α):hload h (some (elp n v i)) (some n)=some (.agg cs.toArray):=by
 have:=H.holeld
 subst hn
 simpa[szo,ha] using this
end
inductive Mix (α:Type) where
 | raw (cs:List Value)
 | new (x:α)
section
variable {α:Type} [Ty α]
def Mix.rep (h:Heap) (cs:List Value):Mix α→Prop
 | .raw c=>cs=c∧c.length=Ty.sz α∧∀v∈c,v.oneCell'=true
 | .new x=>Ty.rep h cs x
def Mix.own (r:Heap) (cs:List Value):Mix α→Prop
 | .raw c=>r=Heap.nil∧cs=c∧c.length=Ty.sz α∧∀v∈c,v.oneCell'=true
 | .new x=>Ty.own r cs x
instance instTyMix:Ty (Mix α) where
 agg:=Ty.agg α
 sz:=Ty.sz α
 rep:=Mix.rep
 own:=Mix.own
 one:=Ty.one
 len:=by
  intro h cs x hx
  cases x with
  | raw c=>obtain⟨rfl,h1,_⟩:=hx; exact h1
  | new x=>exact Ty.len (x:=x) hx
 cell:=by
  intro h cs x hx
  cases x with
  | raw c=>obtain⟨rfl,_,h1⟩:=hx; exact h1
  | new x=>exact Ty.cell (x:=x) hx
 mono:=by
  intro h h' cs x hl hx
  cases x with
  | raw c=>exact hx
  | new x=>exact Ty.mono (x:=x) hl hx
 own_rep:=by
  intro r cs x hx
  cases x with
  | raw c=>exact hx.2
  | new x=>exact Ty.own_rep (x:=x) hx
theorem ownL_new:∀{l:List α}{cs:List Value}{r:Heap},ownL (l.map Mix.new) cs r→ownL l cs r
 | [],_,_,H=>H
 | x::l,cs,r,⟨r1,r2,h1,h2,h3,h4⟩=>⟨r1,r2,h1,h2,h3,ownL_new h4⟩
theorem HS.mixed {g h:Heap}{Γ:List HP}{v:Value}{l:List α}(H:HS g (ow v (l.map Mix.new)::Γ) h):HS g (ow v l::Γ) h:=by
 refine H.imp fun r O=>?_
 have O:Own r v (l.map (Mix.new (α:=α))):=O
 rcases Own_list.1 O with ⟨p,rfl,h1,h2,h3⟩ | ⟨b,off,cap,cells,el,r',rfl,h1,h2,h3,h4,h5⟩
 ·exact Own_list.2 (.inl ⟨p,rfl,by simpa using h1,h2,h3⟩)
 ·exact Own_list.2 (.inr ⟨b,off,cap,cells,el,r',by simp,by simpa using h1,h2,h3,h4,ownL_new h5⟩)
theorem HS.newO {g h:Heap}{Γ:List HP}{v:Value}{x:α}(H:HS g (ow v x::Γ) h):HS g (ow v (Mix.new x)::Γ) h:=H.imp fun _ O=>O
structure Raws (h:Heap) (l:List α) (M:List (Mix α)):Prop where
 len:M.length=l.length
 at':∀(i:Nat) (hi:i<l.length),∃c,M[i]? = some (.raw c)∧Ty.rep h c l[i]
theorem Rep.srcR {h:Heap}{v:Value}{l:List α}(hr:Rep h v l):∃(M:List (Mix α)) (cs:List Value),Raws h l M∧srcV h (Ty.sz α) (some v)=some (l.length,cs)∧cs.length=l.length*Ty.sz α∧ownL M cs Heap.nil:=by
 obtain⟨p,cap,rfl,h1,h2,h3⟩:=Rep_list.1 hr
 cases hl:l with
 | nil=>subst hl; exact⟨[],[],⟨rfl,fun i hi=>absurd hi (Nat.not_lt_zero i)⟩,rfl,by simp,rfl⟩
 | cons y l'=>
  rw[← hl]
  obtain⟨b,off,vs,rfl,_⟩:=h3 0 (by rw[hl]; simp)
  have key:∀n,n≤l.length→∃(M:List (Mix α)) (cs:List Value),M.length=n∧(∀(i:Nat) (hi:i<l.length),i<n→∃c,M[i]? = some (.raw c)∧Ty.rep h c l[i])∧hcells h b off (n*Ty.sz α)=some cs∧cs.length=n*Ty.sz α∧ownL M cs Heap.nil:=by
   intro n
   induction n with
   | zero=>intro _; exact⟨[],[],rfl,fun i _ hi=>absurd hi (Nat.not_lt_zero i),by simp[hcells],by simp,rfl⟩
   | succ n ih=>
    intro hn
    obtain⟨M,cs,g1,g2,g3,g4,g5⟩:=ih (by omega)
    obtain⟨b',off',vs,e1,e2,e3⟩:=h3 n (by omega)
    simp only[Option.some.injEq,Addr.mk.injEq] at e1
    obtain⟨rfl,rfl,_⟩:=e1
    have hlen:=Ty.len e3
    refine⟨M++[.raw vs],cs++vs,by simp[g1],?_,?_,?_,?_⟩
    ·intro i hi hin
     by_cases hh:i<n
     ·obtain⟨c,f1,f2⟩:=g2 i hi hh
      exact⟨c,by rw[List.getElem?_append_left (by omega)]; exact f1,f2⟩
     ·obtain rfl:i=n:=by omega
      exact⟨vs,by rw[← g1,List.getElem?_append_right (Nat.le_refl _)]; simp,e3⟩
    ·rw[show (n+1)*Ty.sz α=n*Ty.sz α+Ty.sz α by rw[Nat.add_mul]; omega]
     exact hcells_add g3 e2
    ·rw[List.length_append,g4,hlen,Nat.add_mul]; omega
    ·have:=ownL_append (l2:=[Mix.raw vs]) (cs2:=vs) (r2:=Heap.nil) g5 (by rw[g4,g1]; rfl) ⟨Heap.nil,Heap.nil,by simp,by simp,⟨rfl,?_,hlen,Ty.cell e3⟩,rfl⟩ (by simp)
     ·simpa using this
     ·show List.take (Ty.sz α) vs=vs
      rw[List.take_of_length_le (by omega)]
  obtain⟨M,cs,g1,g2,g3,g4,g5⟩:=key l.length (Nat.le_refl _)
  exact⟨M,cs,⟨g1,fun i hi=>g2 i hi hi⟩,srcV_slice g3,g4,g5⟩
theorem HS.appPLr {P:Program}{k:Env→Heap→Prop}{e:Env}{g h:Heap}{Γ:List HP}{u:Value}{l2:List α}(H:HS g Γ h) {bytes esz:Nat}{zero:List Value}{j:Nat}{x:O}{dst:Nat}{c0:Array Value}(hp:eget e j=some (.agg c0)) (hx:x.get e=some u) (hr:Rep h u l2) (hsz:esz=Ty.sz α) (hz:zero.length=Ty.sz α) (hb:l2.length*bytes≤140737488355328)
  (K:∀v' h' (M:List (Mix α)),Raws h l2 M→HS g (ow v' M::Γ) h'→k (eset e dst (some v')) h'):(A.ex (some dst) (.app bytes esz zero (.p 0 j) (.o x))).wp P k e h:=by
 subst hsz
 obtain⟨M,cs,hM,h1,h2,h3⟩:=hr.srcR
 have hl:=hM.len
 refine a_appP (α:=Mix α) (rs:=Heap.nil) (l2:=M) hp ?_ (by rw[hl]; exact h2) h3 Dj_nil (by simp) hz (by rw[hl]; exact hb) (by have:=hr.lt; omega) fun v' r' d' O'=>K _ _ M hM ⟨h,r',rfl,d',O',H⟩
 simp only[AO.src,hx,hl]
 exact h1
end
structure Mixed {α:Type} [Ty α] (h:Heap) (l:List α) (f:α→α) (M:List (Mix α)) (i:Nat):Prop where
 len:M.length=l.length
 done:M.take i=((l.map f).take i).map Mix.new
 rest:∀(j:Nat) (hj:j<l.length),i≤j→∃c,M[j]? = some (.raw c)∧Ty.rep h c l[j]
section
variable {α:Type} [Ty α] {h:Heap}{l:List α}{f:α→α}{M:List (Mix α)}{i:Nat}
theorem Mixed.zero (R:Raws h l M):Mixed h l f M 0:=⟨R.len,rfl,fun j hj _=>R.at' j hj⟩
theorem Mixed.le {h':Heap}(H:Mixed h l f M i) (hl:h.le h'):Mixed h' l f M i:=⟨H.len,H.done,fun j hj hij=>by
 obtain⟨c,h1,h2⟩:=H.rest j hj hij
 exact⟨c,h1,Ty.mono hl h2⟩⟩
theorem Mixed.get (H:Mixed h l f M i) (hi:i<l.length):∃c,M[i]'(by rw[H.len]; exact hi)=.raw c∧Ty.rep h c l[i]:=by
 obtain⟨c,h1,h2⟩:=H.rest i hi (Nat.le_refl i)
 refine⟨c,?_,h2⟩
 rw[List.getElem?_eq_getElem (by rw[H.len]; exact hi)] at h1
 exact Option.some.inj h1
theorem Mixed.step (H:Mixed h l f M i) (hi:i<l.length):Mixed h l f (M.set i (.new (f l[i]))) (i+1):=by
 refine⟨by simp[H.len],?_,fun j hj hij=>?_⟩
 ·have h1:M.take i=(l.map fun x=>Mix.new (f x)).take i:=by rw[H.done,List.map_take,List.map_map]; rfl
  have:=take_set_succ (x:=l.map fun x=>Mix.new (f x)) h1 (by simpa using hi) (by simp[H.len])
  rw[List.getElem_map] at this
  rw[this,List.map_take,List.map_map]
  rfl
 ·rw[List.getElem?_set_ne (by omega)]
  exact H.rest j hj (by omega)
theorem Mixed.all (H:Mixed h l f M i) (hi:l.length≤i):M=(l.map f).map Mix.new:=by
 have:=H.done
 rw[List.take_of_length_le (by rw[H.len]; exact hi),List.take_of_length_le (by simpa using hi)] at this
 exact this
end
mutual
def Exq.size:Exq→Nat
 | .mk _ _ l=>Exq.sizes l
def Exq.sizes:List Exq→Nat
 | []=>0
 | x::l=>1+x.size+Exq.sizes l
end
instance instSzExq:Sz Exq:=⟨Exq.size⟩
theorem Exq.sizes_eq:∀l,Exq.sizes l=Sz.sz l
 | []=>by simp[Exq.sizes,sz_list,szL]
 | x::l=>by
  have:=Exq.sizes_eq l
  rw[sz_list] at this ⊢
  simp only[Exq.sizes,szL,List.length_cons,this]
  show 1+Sz.sz x+_=_
  omega
theorem sz_Exq (x:Exq):Sz.sz x=Sz.sz x.kids:=by
 cases x with
 | mk k v l=>exact Exq.sizes_eq l
instance instSzEd:Sz Ed:=⟨fun e=>Sz.sz e.guard+Sz.sz e.value⟩
instance instSzPr:Sz Pr:=⟨fun p=>Sz.sz p.edges⟩
instance instSzSy:Sz Sy:=⟨fun s=>Sz.sz s.init+Sz.sz s.procs⟩
mutual
def Exq.cnt:Exq→Nat
 | .mk _ _ l=>2+Exq.cnts l
def Exq.cnts:List Exq→Nat
 | []=>0
 | x::l=>x.cnt+Exq.cnts l
end
mutual
def Exq.wr:Int→Exq→Exq
 | k,.mk _ _ l=>.mk k (k+1) (Exq.wrs (k+2) l)
def Exq.wrs:Int→List Exq→List Exq
 | _,[]=>[]
 | k,x::l=>x.wr k::Exq.wrs (k+x.cnt) l
end
mutual
theorem Exq.cnt_wr:∀(k:Int) (x:Exq),(Exq.wr k x).cnt=x.cnt
 | k,.mk _ _ l=>by simp only[Exq.wr,Exq.cnt,Exq.cnts_wrs (k+2) l]
theorem Exq.cnts_wrs:∀(k:Int) (l:List Exq),Exq.cnts (Exq.wrs k l)=Exq.cnts l
 | _,[]=>rfl
 | k,x::l=>by simp only[Exq.wrs,Exq.cnts,Exq.cnt_wr k x,Exq.cnts_wrs (k+x.cnt) l]
end
mutual
theorem Exq.wr_wr:∀(k j:Int) (x:Exq),Exq.wr k (Exq.wr j x)=Exq.wr k x
 | k,j,.mk _ _ l=>by simp only[Exq.wr,Exq.wrs_wrs (k+2) (j+2) l]
theorem Exq.wrs_wrs:∀(k j:Int) (l:List Exq),Exq.wrs k (Exq.wrs j l)=Exq.wrs k l
 | _,_,[]=>rfl
 | k,j,x::l=>by simp only[Exq.wrs,Exq.cnt_wr j x,Exq.wr_wr k j x,Exq.wrs_wrs (k+x.cnt) (j+x.cnt) l]
end
instance instMkExq:Mk Exq:=⟨Exq.cnt,Exq.wr,Exq.cnt_wr,Exq.wr_wr⟩
theorem Exq.cnts_eq:∀l,Exq.cnts l=Mk.cnt l
 | []=>rfl
 | x::l=>by
  have:=Exq.cnts_eq l
  simp only[Exq.cnts,this]
  rfl
theorem Exq.wrs_eq:∀k l,Exq.wrs k l=Mk.wr k l
 | _,[]=>rfl
 | k,x::l=>by
  have:=Exq.wrs_eq (k+x.cnt) l
  simp only[Exq.wrs,this]
  rfl
theorem cnt_Exq (x:Exq):Mk.cnt x=2+Mk.cnt x.kids:=by
 cases x with
 | mk k v l=>show 2+Exq.cnts l=_; rw[Exq.cnts_eq]; rfl
theorem wr_Exq (k:Int) (x:Exq):Mk.wr k x=Exq.mk k (k+1) (Mk.wr (k+2) x.kids):=by
 cases x with
 | mk kd v l=>show Exq.mk k (k+1) (Exq.wrs (k+2) l)=_; rw[Exq.wrs_eq]; rfl
instance instMkEd:Mk Ed:=⟨fun e=>Mk.cnt e.frm+Mk.cnt e.to+Mk.cnt e.guard+Mk.cnt e.var+Mk.cnt e.value+Mk.cnt e.sync,
 fun k e=>⟨Mk.wr k e.frm,Mk.wr (k+Mk.cnt e.frm) e.to,Mk.wr (k+Mk.cnt e.frm+Mk.cnt e.to) e.guard,Mk.wr (k+Mk.cnt e.frm+Mk.cnt e.to+Mk.cnt e.guard) e.var,
  Mk.wr (k+Mk.cnt e.frm+Mk.cnt e.to+Mk.cnt e.guard+Mk.cnt e.var) e.value,Mk.wr (k+Mk.cnt e.frm+Mk.cnt e.to+Mk.cnt e.guard+Mk.cnt e.var+Mk.cnt e.value) e.sync⟩,
 fun k a=>by simp[Mk.cnt_wr],fun k j a=>by simp[Mk.cnt_wr,Mk.wr_wr]⟩
instance instMkPr:Mk Pr:=⟨fun p=>Mk.cnt p.locs+Mk.cnt p.edges,fun k p=>⟨Mk.wr k p.locs,Mk.wr (k+Mk.cnt p.locs) p.edges⟩,fun k a=>by simp[Mk.cnt_wr],fun k j a=>by simp[Mk.cnt_wr,Mk.wr_wr]⟩
instance instMkSy:Mk Sy:=⟨fun p=>Mk.cnt p.init+Mk.cnt p.procs,fun k p=>⟨Mk.wr k p.init,Mk.wr (k+Mk.cnt p.init) p.procs⟩,fun k a=>by simp[Mk.cnt_wr],fun k j a=>by simp[Mk.cnt_wr,Mk.wr_wr]⟩
end Go.Proofs.YtbanccfdojgocaaGreat

namespace Go.Proofs.YtbanccfdojgocaaGreat
open Go
theorem foldl_tk {α β:Type}{f:β→α→β}{b:β}{l:List α}{i:Nat}(hi:i<l.length):(l.take (i+1)).foldl f b=f ((l.take i).foldl f b) l[i]:=by
 rw[List.take_add_one,List.getElem?_eq_getElem hi,List.foldl_append]; rfl
def VOk (vs:List Int):Prop:=vs.length=3∧∀x∈vs,0≤x∧x≤3
theorem VOk.len {vs:List Int}(h:VOk vs):vs.length=3:=h.1
theorem VOk.at {vs:List Int}(h:VOk vs) {i:Nat}(hi:i<vs.length):0≤vs[i]∧vs[i]≤3:=h.2 _ (List.getElem_mem hi)
noncomputable instance {vs:List Int}:Decidable (VOk vs):=Classical.propDecidable _
namespace Exq
def arity (k:Int):Int:=if k=1∨k=2 then 0 else if k=3 then 1 else if 4≤k∧k≤9 then 2 else -1
def most (k:Int):Int:=if k=1 then 3 else if k=2 then 2 else 0
structure Nd (x:Exq):Prop where
 ar:(x.kids.length:Int)=arity x.kind
 lo:0≤x.val
 hi:x.val≤most x.kind
def Shp:Nat→Exq→Prop
 | 0,_=>False
 | n+1,x=>x.Nd∧∀y∈x.kids,Shp n y
mutual
def nod:Exq→Nat
 | .mk _ _ l=>1+nods l
def nods:List Exq→Nat
 | []=>0
 | x::l=>x.nod+nods l
end
theorem nod_eq (x:Exq):x.nod=1+nods x.kids:=by cases x; rfl
theorem nods_take:∀{l:List Exq}{i:Nat}(hi:i<l.length),nods (l.take (i+1))=nods (l.take i)+l[i].nod
 | x::l,0,_=>by simp[nods]
 | x::l,i+1,hi=>by
  have:=nods_take (l:=l) (i:=i) (by simpa using hi)
  simp only[List.take_succ_cons,nods,List.getElem_cons_succ,this]; omega
theorem nods_le:∀(l:List Exq) (i:Nat),nods (l.take i)≤nods l
 | [],i=>by simp
 | x::l,0=>by simp[nods]
 | x::l,i+1=>by
  simp only[List.take_succ_cons,nods]
  have:=nods_le l i
  omega
def Ok (x:Exq):Prop:=x.Shp 6∧x.nod≤15
noncomputable instance {x:Exq}:Decidable x.Ok:=Classical.propDecidable _
def zero:Exq:=.mk 0 0 []
theorem Nd.kind {x:Exq}(h:x.Nd):1≤x.kind∧x.kind≤9:=by
 have:=h.ar
 unfold arity at this
 split at this <;> (try split at this) <;> (try split at this) <;> omega
theorem Shp.nd {n:Nat}{x:Exq}(h:x.Shp n):x.Nd:=by
 cases n with
 | zero=>exact h.elim
 | succ n=>exact h.1
theorem Shp.kid {n:Nat}{x:Exq}(h:x.Shp (n+1)) {i:Nat}(hi:i<x.kids.length):x.kids[i].Shp n:=h.2 _ (List.getElem_mem hi)
theorem Shp.bnd:∀{n:Nat}{x:Exq},x.Shp n→x.nod<2 ^ n
 | 0,_,h=>h.elim
 | n+1,x,h=>by
  have h1:=h.1.ar
  have h2:x.kids.length≤2:=by
   unfold arity at h1
   split at h1 <;> (try split at h1) <;> (try split at h1) <;> omega
  have h3:nods x.kids+x.kids.length≤x.kids.length*2 ^ n:=by
   have key:∀l:List Exq,(∀y∈l,Shp n y)→nods l+l.length≤l.length*2 ^ n:=by
    intro l
    induction l with
    | nil=>intro _; simp[nods]
    | cons y l ih=>
     intro hl
     have g1:=Shp.bnd (hl y (by simp))
     have g2:=ih fun z hz=>hl z (by simp[hz])
     simp only[nods,List.length_cons,Nat.add_mul]
     omega
   exact key _ h.2
  have h4:x.kids.length*2 ^ n≤2*2 ^ n:=Nat.mul_le_mul_right _ h2
  have h5:0<2 ^ n:=Nat.pow_pos (by decide)
  rw[nod_eq,Nat.pow_succ]
  by_cases h6:x.kids.length=0
  ·have:x.kids=[]:=List.length_eq_zero_iff.1 h6
   rw[this]; simp only[nods]; omega
  ·rcases (show x.kids.length=1∨x.kids.length=2 by omega) with h7 | h7 <;> rw[h7] at h3 h4 <;> omega
def tr (p:Prop) [Decidable p]:Int:=if p then 1 else 0
def evk (vs:List Int) (k v a b:Int):Int:=
 if k=1 then v else if k=2 then vs.getD v.toNat 0 else if k=3 then tr (a=0) else if k=4 then tr (a≠0∧b≠0) else if k=5 then tr (a≠0∨b≠0)
 else if k=6 then tr (a=b) else if k=7 then tr (a<b) else if k=8 then (a+b).tmod 4 else (a-b+4).tmod 4
mutual
def ev (vs:List Int):Exq→Int
 | .mk k v l=>evk vs k v ((evs vs l).getD 0 0) ((evs vs l).getD 1 0)
def evs (vs:List Int):List Exq→List Int
 | []=>[]
 | x::l=>x.ev vs::evs vs l
end
def kev (x:Exq) (vs:List Int) (j:Nat):Int:=(x.kids.map (ev vs)).getD j 0
mutual
def mkv:Exq→List Bool→List Bool
 | .mk k v l,M=>mkvs l (if k=2 then M.set v.toNat true else M)
def mkvs:List Exq→List Bool→List Bool
 | [],M=>M
 | x::l,M=>mkvs l (x.mkv M)
end
end Exq
structure Ed.Ok (e:Ed) (n:Int):Prop where
 n1:1≤n
 n4:n≤4
 f0:0≤e.frm
 f1:e.frm<n
 t0:0≤e.to
 t1:e.to<n
 gd:e.guard.Ok
 v0:-1≤e.var
 v1:e.var≤2
 vl:(0≤e.var∧e.value.Ok)∨(e.var<0∧e.value=Exq.zero)
 s0:-2≤e.sync
 s1:e.sync≤2
noncomputable instance {e:Ed}{n:Int}:Decidable (e.Ok n):=Classical.propDecidable _
structure Pr.Ok (p:Pr):Prop where
 n1:1≤p.locs
 n4:p.locs≤4
 el:p.edges.length≤6
 ed:∀e∈p.edges,e.Ok p.locs
noncomputable instance {p:Pr}:Decidable p.Ok:=Classical.propDecidable _
structure Sy.Ok (s:Sy):Prop where
 vs:VOk s.init
 p1:1≤s.procs.length
 p3:s.procs.length≤3
 pr:∀p∈s.procs,p.Ok
noncomputable instance {s:Sy}:Decidable s.Ok:=Classical.propDecidable _
theorem Sy.Ok.at {s:Sy}(h:s.Ok) {i:Nat}(hi:i<s.procs.length):s.procs[i].Ok:=h.pr _ (List.getElem_mem hi)
theorem Pr.Ok.at {p:Pr}(h:p.Ok) {i:Nat}(hi:i<p.edges.length):p.edges[i].Ok p.locs:=h.ed _ (List.getElem_mem hi)
structure LOk (l:List Exq):Prop where
 len:l.length=3
 ok:∀x∈l,x.Ok
noncomputable instance {l:List Exq}:Decidable (LOk l):=Classical.propDecidable _
def relL (labels:List Exq) (M:List Bool):List Bool:=labels.foldl (fun M x=>x.mkv M) M
def relG (s:Sy) (M:List Bool):List Bool:=s.procs.foldl (fun M p=>p.edges.foldl (fun M e=>e.guard.mkv M) M) M
def Ed.relv (M:List Bool) (e:Ed):List Bool:=if 0≤e.var∧M.getD e.var.toNat false=true then e.value.mkv M else M
def relV (s:Sy) (M:List Bool):List Bool:=s.procs.foldl (fun M p=>p.edges.foldl Ed.relv M) M
def Sy.rel (s:Sy) (labels:List Exq):List Bool:=relV s (relV s (relV s (relG s (relL labels [false,false,false]))))
end Go.Proofs.YtbanccfdojgocaaGreat

namespace Go.Proofs.YtbanccfdojgocaaGreat
open Go
namespace Fm
def arity (k:Int):Int:=if k=1∨k=2 then 0 else if k=3∨k=6∨k=9∨k=10 then 1 else if k=4∨k=5∨k=7∨k=8 then 2 else -1
structure Nd (x:Exq):Prop where
 ar:(x.kids.length:Int)=arity x.kind
 lo:0≤x.val
 hi:x.val<3
 ze:x.kind≠2→x.val=0
def Shp:Nat→Exq→Prop
 | 0,_=>False
 | n+1,x=>Nd x∧∀y∈x.kids,Shp n y
noncomputable instance {n:Nat}{x:Exq}:Decidable (Shp n x):=Classical.propDecidable _
def Ok (x:Exq):Prop:=Shp 6 x∧x.nod≤12
noncomputable instance {x:Exq}:Decidable (Ok x):=Classical.propDecidable _
theorem Nd.kind {x:Exq}(h:Nd x):1≤x.kind∧x.kind≤10:=by
 have:=h.ar
 unfold arity at this
 split at this <;> (try split at this) <;> (try split at this) <;> omega
theorem arity_le {k:Int}:arity k≤2:=by
 unfold arity
 split <;> (try split) <;> (try split) <;> omega
theorem Shp.nd {n:Nat}{x:Exq}(h:Shp n x):Nd x:=by
 cases n with
 | zero=>exact h.elim
 | succ n=>exact h.1
theorem Shp.kid {n:Nat}{x:Exq}(h:Shp (n+1) x) {i:Nat}(hi:i<x.kids.length):Shp n x.kids[i]:=h.2 _ (List.getElem_mem hi)
theorem Shp.le2 {n:Nat}{x:Exq}(h:Shp n x):x.kids.length≤2:=by
 have h1:=h.nd.ar
 have h2:=arity_le (k:=x.kind)
 omega
theorem Shp.two {n:Nat}{x:Exq}(h:Shp n x) (hk:x.kind=4∨x.kind=5∨x.kind=7∨x.kind=8):x.kids.length=2:=by
 have h1:=h.nd.ar
 unfold arity at h1
 split at h1 <;> (try split at h1) <;> (try split at h1) <;> omega
theorem Shp.one {n:Nat}{x:Exq}(h:Shp n x) (hk:x.kind=3∨x.kind=6∨x.kind=9∨x.kind=10):x.kids.length=1:=by
 have h1:=h.nd.ar
 unfold arity at h1
 split at h1 <;> (try split at h1) <;> (try split at h1) <;> omega
theorem Shp.none {n:Nat}{x:Exq}(h:Shp n x) (hk:x.kind=1∨x.kind=2):x.kids=[]:=by
 have h1:=h.nd.ar
 rw[arity,if_pos hk] at h1
 exact List.length_eq_zero_iff.1 (by omega)
theorem Shp.mono:∀{n:Nat}{x:Exq},Shp n x→Shp (n+1) x
 | 0,_,h=>h.elim
 | n+1,_,h=>⟨h.1,fun y hy=>(h.2 y hy).mono⟩
theorem Shp.bnd:∀{n:Nat}{x:Exq},Shp n x→x.nod<2 ^ n
 | 0,_,h=>h.elim
 | n+1,x,h=>by
  have h2:=h.le2
  rw[Exq.nod_eq]
  have h4:Exq.nods x.kids+x.kids.length≤x.kids.length*2 ^ n:=by
   have key:∀l:List Exq,(∀y∈l,y.nod<2 ^ n)→Exq.nods l+l.length≤l.length*2 ^ n:=by
    intro l
    induction l with
    | nil=>intro _; simp[Exq.nods]
    | cons y l ih=>
     intro hy
     have e1:=hy y (by simp)
     have e2:=ih fun z hz=>hy z (by simp[hz])
     simp only[Exq.nods,List.length_cons,Nat.add_mul]
     omega
   exact key x.kids fun y hy=>(h.2 y hy).bnd
  have h5:0<2 ^ n:=Nat.two_pow_pos n
  have h6:2 ^ (n+1)=2*2 ^ n:=by rw[Nat.pow_succ]; omega
  rw[h6]
  obtain h7 | h7 | h7:x.kids.length=0∨x.kids.length=1∨x.kids.length=2:=by omega
  all_goals (rw[h7] at h4; omega)
def tru:Exq:=.mk 1 0 []
def neg (x:Exq):Exq:=.mk 3 0 [x]
def dual (k:Int):Int:=if k=4 then 5 else if k=5 then 4 else if k=7 then 8 else 7
mutual
def push:Exq→Bool→Exq
 | .mk k v l,n=>if k=1∨k=2 then (if n then neg (.mk k v []) else .mk k v [])
  else if k=3 then (pushes l (!n)).getD 0 Exq.zero
  else if k=6 then .mk 6 0 [(pushes l n).getD 0 Exq.zero]
  else if k=9∨k=10 then (if decide (k=9) != n then .mk 7 0 [tru,(pushes l n).getD 0 Exq.zero] else .mk 8 0 [neg tru,(pushes l n).getD 0 Exq.zero])
  else .mk (if n then dual k else k) 0 [(pushes l n).getD 0 Exq.zero,(pushes l n).getD 1 Exq.zero]
def pushes:List Exq→Bool→List Exq
 | [],_=>[]
 | x::l,n=>push x n::pushes l n
end
theorem pushes_eq {n:Bool}:∀l,pushes l n=l.map fun x=>push x n
 | []=>rfl
 | x::l=>by simp only[pushes,List.map_cons,pushes_eq l]
def kp (x:Exq) (n:Bool) (j:Nat):Exq:=(x.kids.map fun y=>push y n).getD j Exq.zero
theorem kp_at {x:Exq}{n:Bool}{j:Nat}(hj:j<x.kids.length):kp x n j=push x.kids[j] n:=by simp[kp,hj]
theorem push_eq (x:Exq) (n:Bool):push x n=if x.kind=1∨x.kind=2 then (if n then neg (.mk x.kind x.val []) else .mk x.kind x.val [])
  else if x.kind=3 then kp x (!n) 0
  else if x.kind=6 then .mk 6 0 [kp x n 0]
  else if x.kind=9∨x.kind=10 then (if decide (x.kind=9) != n then .mk 7 0 [tru,kp x n 0] else .mk 8 0 [neg tru,kp x n 0])
  else .mk (if n then dual x.kind else x.kind) 0 [kp x n 0,kp x n 1]:=by
 cases x with
 | mk k v l=>simp only[push,pushes_eq]; rfl
noncomputable def nfR (x:Exq):Exq:=if Ok x∧Ok (push x false) then push x false else Exq.zero
noncomputable def fx (l:List Exq) (x:Exq):Int:=match l.findIdx? (fun y=>decide (y=x)) with | some i=>(i:Int) | .none=>-1
theorem fx_at {xs:List Exq}{st:Exq}{i:Nat}(hi:i<xs.length) (he:xs[i]=st) (hn:∀(j:Nat) (hj:j<xs.length),j<i→xs[j]≠st):fx xs st=i:=by
 have:xs.findIdx? (fun y=>decide (y=st))=some i:=by
  rw[List.findIdx?_eq_some_iff_getElem]
  exact⟨hi,by simpa using he,fun j hj=>by simpa using hn j (by omega) hj⟩
 rw[fx,this]
theorem fx_not {xs:List Exq}{st:Exq}(h:st∉xs):fx xs st = -1:=by
 have:xs.findIdx? (fun y=>decide (y=st))=.none:=by
  rw[List.findIdx?_eq_none_iff]
  intro y hy
  simp only[decide_eq_false_iff_not]
  rintro rfl
  exact h hy
 rw[fx,this]
theorem fx_mem {xs:List Exq}{st:Exq}(h:st∈xs):∃(i:Nat) (hi:i<xs.length),fx xs st=i∧xs[i]=st:=by
 obtain⟨i,hi⟩:∃i,xs.findIdx? (fun y=>decide (y=st))=some i:=by
  rcases hf:xs.findIdx? (fun y=>decide (y=st)) with _ | i
  ·rw[List.findIdx?_eq_none_iff] at hf
   have:=hf st h
   simp at this
  ·exact⟨i,rfl⟩
 have h2:=hi
 rw[List.findIdx?_eq_some_iff_getElem] at h2
 obtain⟨h3,h4,_⟩:=h2
 exact⟨i,h3,by rw[fx,hi],by simpa using h4⟩
theorem fx_neg {xs:List Exq}{st:Exq}:fx xs st<0↔st∉xs:=by
 constructor
 ·intro h hm
  obtain⟨i,_,e,_⟩:=fx_mem hm
  omega
 ·intro h
  rw[fx_not h]
  decide
noncomputable def ins (o:List Exq) (x:Exq):List Exq:=if x∈o then o else o++[x]
mutual
noncomputable def subs:Exq→List Exq→List Exq
 | .mk k v l,o=>ins (subsL l o) (.mk k v l)
noncomputable def subsL:List Exq→List Exq→List Exq
 | [],o=>o
 | x::l,o=>subsL l (subs x o)
end
theorem subsL_eq:∀(l:List Exq) (o:List Exq),subsL l o=l.foldl (fun o x=>subs x o) o
 | [],_=>rfl
 | x::l,o=>by rw[subsL,subsL_eq l,List.foldl_cons]
theorem subs_eq (x:Exq) (o:List Exq):subs x o=ins (x.kids.foldl (fun o x=>subs x o) o) x:=by
 cases x with
 | mk k v l=>rw[subs,subsL_eq]; rfl
theorem ins_len {o:List Exq}{x:Exq}:(ins o x).length≤o.length+1:=by unfold ins; split <;> simp
theorem subsL_len:∀(l:List Exq),(∀x∈l,∀o,(subs x o).length≤o.length+x.nod)→∀o,(l.foldl (fun o x=>subs x o) o).length≤o.length+Exq.nods l
 | [],_,o=>by simp[Exq.nods]
 | x::l,h,o=>by
  have h1:=h x (by simp) o
  have h2:=subsL_len l (fun y hy=>h y (by simp[hy])) (subs x o)
  simp only[List.foldl_cons,Exq.nods]
  omega
theorem subs_len:∀(x:Exq) (o:List Exq),(subs x o).length≤o.length+x.nod:=by
 have key:∀(n:Nat) (x:Exq),x.nod≤n→∀o,(subs x o).length≤o.length+x.nod:=by
  intro n
  induction n with
  | zero=>intro x h; rw[Exq.nod_eq] at h; omega
  | succ n ih=>
   intro x hx o
   rw[Exq.nod_eq] at hx ⊢
   rw[subs_eq]
   have h1:=subsL_len x.kids (fun y hy=>ih y (by
    obtain⟨i,hi,rfl⟩:=List.mem_iff_getElem.1 hy
    have e1:=Exq.nods_take hi
    have e2:=Exq.nods_le x.kids (i+1)
    omega)) o
   have h2:=ins_len (o:=x.kids.foldl (fun o x=>subs x o) o) (x:=x)
   omega
 exact fun x o=>key x.nod x (Nat.le_refl _) o
theorem subs_all {P:Exq→Prop}:∀(n:Nat) (x:Exq),(∀y,P y→∀z∈y.kids,P z)→x.nod≤n→P x→∀(o:List Exq),(∀y∈o,P y)→∀y∈subs x o,P y:=by
 intro n
 induction n with
 | zero=>intro x _ h; rw[Exq.nod_eq] at h; omega
 | succ n ih=>
  intro x hP hx hPx o ho
  rw[Exq.nod_eq] at hx
  rw[subs_eq]
  have hl:∀(l:List Exq),(∀z∈l,P z∧z.nod≤n)→∀(o:List Exq),(∀y∈o,P y)→∀y∈l.foldl (fun o x=>subs x o) o,P y:=by
   intro l
   induction l with
   | nil=>intro _ o ho; exact ho
   | cons z l ihl=>
    intro hz o ho
    rw[List.foldl_cons]
    exact ihl (fun w hw=>hz w (by simp[hw])) _ (ih z hP (hz z (by simp)).2 (hz z (by simp)).1 o ho)
  have h1:=hl x.kids (fun z hz=>⟨hP x hPx z hz,by
   obtain⟨i,hi,rfl⟩:=List.mem_iff_getElem.1 hz
   have e1:=Exq.nods_take hi
   have e2:=Exq.nods_le x.kids (i+1)
   omega⟩) o ho
  intro y hy
  unfold ins at hy
  split at hy
  ·exact h1 y hy
  ·rcases List.mem_append.1 hy with hy | hy
   ·exact h1 y hy
   ·simp at hy; subst hy; exact hPx
def bas (x:Exq):Bool:=decide (x.kind=2∨x.kind=6∨x.kind=7∨x.kind=8)
noncomputable def basics (x:Exq):List Exq:=(subs (push x false) []).filter bas
def bOk (x:Exq):Prop:=(Ok x∧Ok (push x false))∧(basics x).length≤5
noncomputable instance {x:Exq}:Decidable (bOk x):=Classical.propDecidable _
noncomputable def basR (x:Exq):List Exq:=if bOk x then basics x else []
theorem Shp.kids6 {x:Exq}(h:∃n,n≤6∧Shp n x):∀y∈x.kids,∃n,n≤6∧Shp n y:=by
 obtain⟨n,hn,hs⟩:=h
 cases n with
 | zero=>exact hs.elim
 | succ n=>exact fun y hy=>⟨n,by omega,hs.2 y hy⟩
theorem Shp.up {n m:Nat}{x:Exq}(h:Shp n x) (hm:n≤m):Shp m x:=by
 induction m with
 | zero=>have:n=0:=by omega
         subst this; exact h
 | succ m ih=>
  by_cases e:n=m+1
  ·subst e; exact h
  ·exact (ih (by omega)).mono
theorem basics_ok {x:Exq}(h:bOk x):∀y∈basics x,Shp 6 y∧bas y=true:=by
 intro y hy
 obtain⟨h1,h2⟩:=List.mem_filter.1 hy
 obtain⟨n,hn,h3⟩:=subs_all (P:=fun y=>∃n,n≤6∧Shp n y) _ (push x false) (fun y hy=>Shp.kids6 hy) (Nat.le_refl _) ⟨6,Nat.le_refl _,h.1.2.1⟩ [] (fun y hy=>by simp at hy) y h1
 exact⟨h3.up hn,h2⟩
end Fm
end Go.Proofs.YtbanccfdojgocaaGreat

namespace Go.Proofs.YtbanccfdojgocaaGreat
open Go
theorem i64_0:I64 0:=⟨by decide,by decide⟩
theorem own_zeroE:Ty.own Heap.nil [.int .i64 0,.int .i64 0,.slice none 0 0] Exq.zero:=ownExq.2 ⟨_,rfl,i64_0,i64_0,Own_nils⟩
theorem c_toFormulaS_of {h:Heap}{a:Value}{x:List Exq}(ih:∀y∈x,∀{h:Heap}{v:Value},Rep h v y→Sz.sz y≤1048576→CallE Tryz.prog fn_laws_toFormula [v] h (fun u h'=>HS h [ow u y] h')) (Ra:Rep h a x) (hs:Sz.sz x≤1048576):CallE Tryz.prog fn_laws_toFormulaS [a] h (fun v h'=>HS h [ow v x] h'):=by
 rw[sz_list] at hs
 refine CallE.gen fun k hk=>EN_laws_toFormulaS rfl ?_
 simp -implicitDefEqProofs (disch:=first|omega|(simp only[LnZ];omega))[wrap64,Ra.len]
 refine HS.init.mks (α:=Exq) (z:=Exq.zero) rfl rfl (own_zeroE) (Nat.le_refl _) (by omega) (by omega) fun v h1 H=>?_
 simp -implicitDefEqProofs (disch:=first|omega|(simp only[LnZ];omega))[wrap64]
 refine wp_count x.length (fun i e h'=>e=[some a,none,some v,some (.int .i64 i)]∧∃y,HS h [ow v y] h'∧y.length=x.length∧y.take i=x.take i) ⟨rfl,_,H,by simp,by simp⟩ ?_
 clear H
 rintro J i _ h2 hJ hi ⟨rfl,y,H,hl,hy⟩
 simp -implicitDefEqProofs (disch:=first|omega|(simp only[LnZ];omega))[wrap64,Ra.len]
 refine IteW.mk (fun hlt=>?_) (fun hge=>?_)
 ·have hlx:i<x.length:=by omega
  obtain⟨u,hu,Ru⟩:=(Ra.on H).ld hlx
  change hload _ (some (elp 3 a i)) (some 3)=some u at hu
  have hsi:=szL_get hlx
  simp -implicitDefEqProofs (disch:=first|omega|(simp only[LnZ];omega))[wrap64,Ra.X (n:=3) rfl,hu]
  refine (ih _ (List.getElem_mem hlx) Ru (by omega)).go ?_
  intro w h3 G
  have H:=G.app H
  simp -implicitDefEqProofs (disch:=first|omega|(simp only[LnZ];omega))[wrap64,H.sw1.rep.X (n:=3) rfl,G.rep.aExq]
  refine HS.store H (by omega) rfl rfl rfl fun h4 H=>?_
  simp -implicitDefEqProofs (disch:=first|omega|(simp only[LnZ];omega))[wrap64]
  exact hJ _ _ hlx ⟨rfl,_,H,by simp[hl],take_set_succ hy hlx hl⟩
 ·simp -implicitDefEqProofs (disch:=first|omega|(simp only[LnZ];omega))[wrap64]
  refine RetK.keep (hk _ _ ?_)
  rw[← eq_of_take hy (by omega) hl]; exact H
theorem c_toFormula:∀(x:Exq) {h:Heap}{v:Value},Rep h v x→Sz.sz x≤1048576→CallE Tryz.prog fn_laws_toFormula [v] h (fun u h'=>HS h [ow u x] h'):=by
 refine Exq.ind fun x ih h v R hs=>?_
 obtain⟨w,rfl,k1,k2,R1⟩:=Rep_Exq.1 R
 rw[sz_Exq] at hs
 refine CallE.gen fun k hk=>EN_laws_toFormula rfl ?_
 simp -implicitDefEqProofs (disch:=first|omega|(simp only[LnZ];omega))[wrap64,setC]
 refine (c_toFormulaS_of ih R1 hs).go ?_
 intro u h1 G
 simp -implicitDefEqProofs (disch:=first|omega|(simp only[LnZ];omega))[wrap64,setC,G.rep.cells,G.rep.one]
 exact RetK.keep (hk _ _ (G.mkExq k1 k2))
theorem c_szFormulaS_of {h:Heap}{a:Value}{x:List Exq}(ih:∀y∈x,∀{h:Heap}{a:Value},Rep h a y→∀{n:Int},0≤n∧n≤1048576→CallE Tryz.prog fn_laws_szFormula [a,.int .i64 n] h (fun v h'=>h'=h∧∃m:Int,v=.int .i64 m∧(m = -1∨(0≤m∧m+Sz.sz y=n)))) (Ra:Rep h a x) {n:Int}(hn:0≤n∧n≤1048576):CallE Tryz.prog fn_laws_szFormulaS [a,.int .i64 n] h (fun v h'=>h'=h∧∃m:Int,v=.int .i64 m∧(m = -1∨(0≤m∧m+Sz.sz x=n))):=by
 rw[sz_list]
 refine CallE.gen fun k hk=>EN_laws_szFormulaS rfl ?_
 have hL:=Ra.lt
 simp -implicitDefEqProofs (disch:=first|omega|(simp only[LnZ];omega))[wrap64,Ra.len]
 refine IteW.mk (fun hlt=>?_) (fun hge=>?_)
 ·simp -implicitDefEqProofs (disch:=first|omega|(simp only[LnZ];omega))[wrap64]
  exact RetK.keep (hk _ _ ⟨rfl,_,rfl,.inl rfl⟩)
 simp -implicitDefEqProofs (disch:=first|omega|(simp only[LnZ];omega))[wrap64]
 refine wp_count x.length (fun i e h'=>h'=h∧∃m:Int,e=[some a,some (.int .i64 m),none,some (.int .i64 i)]∧0≤m∧m+x.length+szL (x.take i)=n) ⟨rfl,_,rfl,by omega,by simp[szL]⟩ ?_
 rintro J i _ _ hJ hi ⟨rfl,m,rfl,hm,hmn⟩
 simp -implicitDefEqProofs (disch:=first|omega|(simp only[LnZ];omega))[wrap64,Ra.len]
 refine IteW.mk (fun hlt=>?_) (fun hge2=>?_)
 ·have hlx:i<x.length:=by omega
  obtain⟨u,hu,Ru⟩:=Ra.ld hlx
  change hload _ (some (elp 3 a i)) (some 3)=some u at hu
  simp -implicitDefEqProofs (disch:=first|omega|(simp only[LnZ];omega))[wrap64,Ra.X (n:=3) rfl,hu]
  refine (ih _ (List.getElem_mem hlx) Ru (n:=m) (by omega)).go ?_
  rintro _ _ ⟨rfl,m2,rfl,q⟩
  simp -implicitDefEqProofs (disch:=first|omega|(simp only[LnZ];omega))[wrap64]
  refine IteW.mk (fun hlt=>?_) (fun hge=>?_)
  ·simp -implicitDefEqProofs (disch:=first|omega|(simp only[LnZ];omega))[wrap64]
   exact RetK.keep (hk _ _ ⟨rfl,_,rfl,.inl rfl⟩)
  ·simp -implicitDefEqProofs (disch:=first|omega|(simp only[LnZ];omega))[wrap64]
   exact hJ _ _ hlx ⟨rfl,_,rfl,by omega,by rw[szL_take hlx]; omega⟩
 ·simp -implicitDefEqProofs (disch:=first|omega|(simp only[LnZ];omega))[wrap64]
  rw[List.take_of_length_le (by omega)] at hmn
  exact RetK.keep (hk _ _ ⟨rfl,_,rfl,.inr (by omega)⟩)
theorem c_szFormula:∀(x:Exq) {h:Heap}{a:Value},Rep h a x→∀{n:Int},0≤n∧n≤1048576→CallE Tryz.prog fn_laws_szFormula [a,.int .i64 n] h (fun v h'=>h'=h∧∃m:Int,v=.int .i64 m∧(m = -1∨(0≤m∧m+Sz.sz x=n))):=by
 refine Exq.ind fun x ih h a R n hn=>?_
 obtain⟨w,rfl,k1,k2,R1⟩:=Rep_Exq.1 R
 rw[sz_Exq]
 refine CallE.gen fun k hk=>EN_laws_szFormula rfl ?_
 simp -implicitDefEqProofs (disch:=first|omega|(simp only[LnZ];omega))[wrap64]
 refine (c_szFormulaS_of ih R1 hn).go ?_
 rintro _ _ ⟨rfl,m,rfl,q⟩
 simp -implicitDefEqProofs (disch:=first|omega|(simp only[LnZ];omega))[wrap64]
 refine IteW.mk (fun hlt=>?_) (fun hge=>?_)
 ·simp -implicitDefEqProofs (disch:=first|omega|(simp only[LnZ];omega))[wrap64]
  exact RetK.keep (hk _ _ ⟨rfl,_,rfl,.inl rfl⟩)
 ·simp -implicitDefEqProofs (disch:=first|omega|(simp only[LnZ];omega))[wrap64]
  exact RetK.keep (hk _ _ ⟨rfl,_,rfl,.inr (by omega)⟩)
theorem c_eqFormulaS_of {h:Heap}{a b:Value}{x y:List Exq}(ih:∀z∈x,∀{h:Heap}{a b:Value}{w:Exq},Rep h a z→Rep h b w→CallE Tryz.prog fn_laws_eqFormula [a,b] h (fun v h'=>h'=h∧v=.bool (decide (z=w)))) (Ra:Rep h a x) (Rb:Rep h b y):CallE Tryz.prog fn_laws_eqFormulaS [a,b] h (fun v h'=>h'=h∧v=.bool (decide (x=y))):=by
 refine CallE.gen fun k hk=>EN_laws_eqFormulaS rfl ?_
 have hL:=Ra.lt
 simp -implicitDefEqProofs (disch:=first|omega|(simp only[LnZ];omega))[wrap64,Ra.len,Rb.len]
 refine IteW.mkr (fun hne=>?_) (fun heq=>?_)
 ·simp -implicitDefEqProofs (disch:=first|omega|(simp only[LnZ];omega))[wrap64]
  exact RetK.keep (hk _ _ ⟨rfl,by simp; rintro rfl; exact hne rfl⟩)
 simp -implicitDefEqProofs (disch:=first|omega|(simp only[LnZ];omega))[wrap64]
 refine wp_count x.length (fun i e h'=>h'=h∧e=[some a,some b,none,some (.int .i64 i)]∧x.take i=y.take i) ⟨rfl,rfl,rfl⟩ ?_
 rintro J i _ _ hJ hi ⟨rfl,rfl,hxy⟩
 simp -implicitDefEqProofs (disch:=first|omega|(simp only[LnZ];omega))[wrap64,Ra.len]
 refine IteW.mk (fun hlt=>?_) (fun hge=>?_)
 ·have hly:i<y.length:=by omega
  have hlx:i<x.length:=by omega
  obtain⟨u,hu,Ru⟩:=Ra.ld hlx
  obtain⟨w,hw,Rw⟩:=Rb.ld hly
  change hload _ (some (elp 3 a i)) (some 3)=some u at hu
  change hload _ (some (elp 3 b i)) (some 3)=some w at hw
  simp -implicitDefEqProofs (disch:=first|omega|(simp only[LnZ];omega))[wrap64,Ra.X (n:=3) rfl,Rb.X (n:=3) rfl,hu,hw]
  refine (ih _ (List.getElem_mem hlx) Ru Rw).go ?_
  rintro _ _ ⟨rfl,rfl⟩
  simp -implicitDefEqProofs (disch:=first|omega|(simp only[LnZ];omega))[wrap64]
  refine IteW.mkr (fun hne=>?_) (fun heq=>?_)
  ·simp -implicitDefEqProofs (disch:=first|omega|(simp only[LnZ];omega))[wrap64]
   exact RetK.keep (hk _ _ ⟨rfl,by simp; rintro rfl; exact hne rfl⟩)
  simp -implicitDefEqProofs (disch:=first|omega|(simp only[LnZ];omega))[wrap64]
  exact hJ _ _ hlx ⟨rfl,rfl,take_step hxy hlx hly heq⟩
 ·simp -implicitDefEqProofs (disch:=first|omega|(simp only[LnZ];omega))[wrap64]
  refine RetK.keep (hk _ _ ⟨rfl,?_⟩)
  simp
  rw[List.take_of_length_le (by omega),List.take_of_length_le (by omega)] at hxy
  exact hxy
theorem c_eqFormula':∀(x:Exq) {h:Heap}{a b:Value}{y:Exq},Rep h a x→Rep h b y→CallE Tryz.prog fn_laws_eqFormula [a,b] h (fun v h'=>h'=h∧v=.bool (decide (x=y))):=by
 refine Exq.ind fun x ih h a b y Ra Rb=>?_
 obtain⟨w,rfl,k1,k2,R1⟩:=Rep_Exq.1 Ra
 obtain⟨w2,rfl,k3,k4,R2⟩:=Rep_Exq.1 Rb
 refine CallE.gen fun k hk=>EN_laws_eqFormula rfl ?_
 simp -implicitDefEqProofs (disch:=first|omega|(simp only[LnZ];omega))[wrap64]
 refine IteW.mkr (fun h1=>?_) (fun h1=>?_)
 ·simp -implicitDefEqProofs (disch:=first|omega|(simp only[LnZ];omega))[wrap64]
  exact RetK.keep (hk _ _ ⟨rfl,by simp[Exq.ext_iff',h1]⟩)
 simp -implicitDefEqProofs (disch:=first|omega|(simp only[LnZ];omega))[wrap64]
 refine IteW.mkr (fun h2=>?_) (fun h2=>?_)
 ·simp -implicitDefEqProofs (disch:=first|omega|(simp only[LnZ];omega))[wrap64]
  exact RetK.keep (hk _ _ ⟨rfl,by simp[Exq.ext_iff',h2]⟩)
 simp -implicitDefEqProofs (disch:=first|omega|(simp only[LnZ];omega))[wrap64]
 refine (c_eqFormulaS_of ih R1 R2).go ?_
 rintro _ _ ⟨rfl,rfl⟩
 simp -implicitDefEqProofs (disch:=first|omega|(simp only[LnZ];omega))[wrap64]
 refine IteW.mkr (fun h3=>?_) (fun h3=>?_)
 ·simp -implicitDefEqProofs (disch:=first|omega|(simp only[LnZ];omega))[wrap64]
  exact RetK.keep (hk _ _ ⟨rfl,by simp[Exq.ext_iff',h3]⟩)
 simp -implicitDefEqProofs (disch:=first|omega|(simp only[LnZ];omega))[wrap64]
 exact RetK.keep (hk _ _ ⟨rfl,by simp[Exq.ext_iff',h1,h2,h3]⟩)
theorem c_eqFormula {x:Exq}{h:Heap}{a b:Value}{y:Exq}(Ra:Rep h a x) (Rb:Rep h b y):CallE Tryz.prog fn_laws_eqFormula [a,b] h (fun v h'=>h'=h∧v=.bool (decide (x=y))):=c_eqFormula' x Ra Rb
end Go.Proofs.YtbanccfdojgocaaGreat

namespace Go.Proofs.YtbanccfdojgocaaGreat
open Go Go.RowKit
def whole (w:World):Heap:=fun b=>w.heap[b]?
theorem calls_law {P:Program}{f:FuncId}{fn:Func}{args:List Value}{W:World}(hf:P.funcs[f]? = some fn) (hname:(fn.name == "runtime.NumGoroutine")=false) (hb:fn.body.isSome=true)
  (h:CallE P f args (whole W) (fun u h'=>(whole W).le h'∧u=.bool true)):Calls P f args.toArray W fun e W'=>e=.returned (.bool true)∧Below W.heap.size W W':=by
 have h1:=h W (fun b o hb=>hb)
 obtain⟨bd,hbd⟩:=Option.isSome_iff_exists.1 hb
 have hname':¬fn.name = "runtime.NumGoroutine":=by simpa using hname
 have hcall:(callFunc f args.toArray).run P W=.ok (.enter f args.toArray) W:=by
  simp[callFunc,hf,hname',hbd]
 rw[hcall] at h1
 refine Calls.mono h1 ?_
 rintro e W' ⟨v,h',rfl,⟨hl,rfl⟩,hs,hF⟩
 refine⟨rfl,hF.os,hF.tape,hF.output,hF.size,?_⟩
 intro k hk
 have h2:whole W k=some W.heap[k]:=by simp[whole,hk]
 rw[hs _ _ (hl _ _ h2)]
 simp[hk]
section
variable {H:Type}{enc:TypeId×Value→H}{P:Program}
theorem trodAll_below (hl:laidOutB P=true) {W W':World}:∀{ts:List TypeId}{vs:List Value}{ds:List (DataW H)}{ps:List MemPlace},(∀t∈ts,P.readableRec t=true∧t<P.types.size) →
  DataW.TrodAll enc P W 0 (fun _=>true) true ts vs ds ps→Below W.heap.size W W'→(∀x∈ps,x.block<W.heap.size)→DataW.TrodAll enc P W' 0 (fun b=>decide (b<W.heap.size)) true ts vs ds ps
 | [],[],[],_,_,h,_,_=>h
 | _::_,_::_,_::_,_,ht,⟨p,q,h1,h2,e⟩,hb,hlt=>
  ⟨p,q,Below.trod hl (ht _ (by simp)).1 (ht _ (by simp)).2 h1 hb (fun x hx=>hlt x (by rw[e]; exact List.mem_append_left _ hx)),
   trodAll_below hl (fun t h=>ht t (by simp[h])) h2 hb (fun x hx=>hlt x (by rw[e]; exact List.mem_append_right _ hx)),e⟩
theorem kept_below {W W':World}(hb:Below W.heap.size W W') (may:MemPlace→Prop):W.keptBut W' may:=by
 refine⟨hb.os,hb.output,fun i hi=>?_⟩
 rw[hb.block i hi]
 split
 ·rename_i h1 h2; rw[h1] at h2; simp only[Option.some.injEq,Obj.cells.injEq] at h2; obtain⟨rfl,rfl,rfl⟩:=h2; exact⟨rfl,rfl,rfl,fun _ _=>rfl⟩
 ·rename_i h1 h2; rw[h1] at h2; simp only[Option.some.injEq,Obj.map.injEq] at h2; obtain⟨rfl,rfl⟩:=h2; exact .inr ⟨rfl,rfl⟩
 ·rfl
theorem post_law {f:Func}{s:ChangeSpec}{W W':World}{args:Array Value}{ds gs:List (DataW H)}{before:List MemPlace}(hl:laidOutB P=true) (hvars:s.vars=[]) (ht:∀t∈f.params.toList,P.readableRec t=true∧t<P.types.size)
  (hr:∃t,f.resultTypes = #[t]∧P.underlying t=some .bool) (hspec:(s.fn H (ds++gs)).results=[.lit (.bool true)]∧(s.fn H (ds++gs)).args=ds∧(s.fn H (ds++gs)).vars=[])
  (hW:DataW.Whole enc P f.params.toList s.vars false W args.toList ds gs before) (hb:Below W.heap.size W W'):s.post enc P f false true false false W args (.bool true) W':=by
 obtain⟨t,ht1,ht2⟩:=hr
 obtain⟨h1,h2,h3⟩:=hspec
 have hW':=hW
 obtain⟨p,q,hA,hV,rfl,hz,hn⟩:=hW
 rw[hvars] at hV
 obtain⟨rfl,rfl⟩:=Go.ChangeShapes.trodVars_none hV
 have hlt:∀x∈p++[],x.block<W.heap.size:=fun x hx=>by simpa using hW'.lt x hx
 refine⟨ds,[],p++[],[],p,[],hW',?_,?_,?_,World.keptBut_mono (fun x hx=>⟨by simpa using hx,.inr (.inl (by simpa using hx))⟩) (kept_below hb (fun x=>x∈p)),by simp⟩
 ·rw[h1,ht1]
  exact trodAll_cons_mk (shut_bool ht2 _) Go.ChangeShapes.trodAll_mk0
 ·rw[h2]
  exact trodAll_below hl ht hA hb (fun x hx=>hlt x (by simpa using hx))
 ·rw[h3,hvars]; rfl
end
def wOk {H:Type}(P:Program) (t:TypeId) (d:DataW H):Prop:=∀n∈d.weights P t,n≤reachBytes
theorem wOk_all {H:Type}{P:Program}{e:TypeId}:∀{l:List (DataW H)},(∀n∈DataW.weightsAll P e l,n≤reachBytes)→∀d∈l,wOk P e d
 | [],_,d,hd=>by simp at hd
 | x::l,h,d,hd=>by
  simp only[DataW.weightsAll,List.mem_append] at h
  rcases List.mem_cons.1 hd with rfl | hd
  ·exact fun n hn=>h n (.inl hn)
  ·exact wOk_all (fun n hn=>h n (.inr hn)) d hd
theorem wOk_each {H:Type}{P:Program}:∀{ts:List TypeId}{l:List (DataW H)},(∀n∈DataW.weightsEach P ts l,n≤reachBytes)→∀(i:Nat) t d,ts[i]? = some t→l[i]? = some d→wOk P t d
 | [],_,_,i,t,d,h1,_=>by simp at h1
 | _::_,[],_,i,t,d,_,h2=>by simp at h2
 | t0::ts,x::l,h,0,t,d,h1,h2=>by
  simp at h1 h2; subst h1 h2
  exact fun n hn=>h n (by simp only[DataW.weightsEach,List.mem_append]; exact .inl hn)
 | t0::ts,x::l,h,i+1,t,d,h1,h2=>wOk_each (ts:=ts) (l:=l) (fun n hn=>h n (by simp only[DataW.weightsEach,List.mem_append]; exact .inr hn)) i t d (by simpa using h1) (by simpa using h2)
def RdT (P:Program) (t:TypeId) (α:Type) [Ty α]:Prop:=∀{H:Type}(enc:TypeId×Value→H) (W:World) (sp:Nat→Bool) (fuel:Nat) (cs:List Value) (x:DataW H×List MemPlace),
 DataW.trod enc P W 0 sp true fuel t cs=some x→wOk P t x.1→∃y:α,Ty.rep (whole W) cs y
section
variable {P:Program}{t:TypeId}
theorem rd_int (ht:P.underlying t=some (.int .i64)):RdT P t Int:=by
 intro H enc W sp fuel cs x h hwt
 cases fuel with
 | zero=>simp[DataW.trod] at h
 | succ n=>
  unfold DataW.trod at h
  rw[ht] at h
  split at h
  case h_2 k k' m h1=>
   simp only[Option.some.injEq,TypeDesc.int.injEq] at h1
   subst h1
   split at h
   case isTrue hc=>
    obtain⟨rfl,hw⟩:=hc
    have:=bounds_i64 hw
    exact⟨_,rfl,by omega,by omega⟩
   case isFalse=>simp at h
  all_goals simp_all
theorem cells_whole {W:World}{b off:Nat}:∀{n:Nat}{l:List Value},W.cells? 0 ⟨b,off,none⟩ n=some l→hcells (whole W) b off n=some l:=by
 have key:∀n o l,(List.range' o n).mapM (fun i=>W.cell? ((⟨b,off,none⟩:Addr).add i))=some l→hcells (whole W) b (off+o) n=some l:=by
  intro n
  induction n with
  | zero=>intro o l h; simpa[hcells] using h
  | succ n ih=>
   intro o l h
   rw[List.range'_succ,List.mapM_cons] at h
   simp only[Option.bind_eq_bind,Option.bind_eq_some_iff,Option.pure_def,Option.some.injEq] at h
   obtain⟨v,h1,r,h2,rfl⟩:=h
   have h3:=ih (o+1) r h2
   have h4:hcell (whole W) b (off+o)=some v:=by
    rw[addr_add0] at h1
    simp only[World.cell?,Option.isSome_none,Bool.false_eq_true,if_false] at h1
    simp only[hcell,whole]
    split at h1
    ·rename_i hb; rw[hb]; exact h1
    ·simp at h1
   simp only[hcells,h4]
   rw[show off+o+1=off+(o+1) by omega,h3]
 intro n l h
 simp only[World.cells?,Nat.zero_le,if_true] at h
 rw[List.range_eq_range'] at h
 exact key n 0 l h
theorem cells_spot {W:World}{b off s n:Nat}(hn:0<n):W.cells? 0 ⟨b,off,some s⟩ n=none:=by
 simp only[World.cells?,Nat.zero_le,if_true]
 cases n with
 | zero=>omega
 | succ n=>
  rw[List.range_succ_eq_map,List.mapM_cons]
  have:W.cell? ((⟨b,off,some s⟩:Addr).add 0)=none:=by
   simp only[Addr.add,if_true,World.cell?]
   split <;> simp
  rw[this]; rfl
theorem rd_list {α:Type} [Ty α] {e:TypeId}(ht:P.underlying t=some (.slice e)) (hc:P.cellsOf e=Ty.sz α) (hpos:0<Ty.sz α) (hby:0<P.bytesOf e) (he:RdT P e α):RdT P t (List α):=by
 intro H enc W sp fuel cs x h hwt
 rcases Go.Deep.open_slice ht h with ⟨rfl,_⟩ | ⟨a,len,cap,m,n,D,Pl,rfl,_,hlen,hcap,hm,rfl,hel⟩
 ·exact⟨[],none,0,rfl,by simp,trivial,fun i hi=>by simp at hi⟩
 ·have hle:len≤m:=by rw[hm]; split <;> omega
  simp only[wOk,DataW.weights,ht,List.mem_cons,List.mem_append] at hwt
  have hsz:len≤reachBytes:=by
   have h1:=hwt _ (.inl rfl)
   simp only[List.length_map,List.length_range] at h1
   have h2:len*1≤(len+(m-len))*P.bytesOf e:=Nat.mul_le_mul (by omega) hby
   omega
  have hwe:=wOk_all (fun n hn=>hwt n (.inr (.inl hn)))
  have hall:∀i,i<len→∃y:α,∃b off vs,some a=some (⟨b,off,none⟩:Addr)∧hcells (whole W) b (off+i*Ty.sz α) (Ty.sz α)=some vs∧Ty.rep (whole W) vs y:=by
   intro i hi
   obtain⟨cs',h1,h2⟩:=hel i (by omega)
   obtain⟨y,hy⟩:=he enc W sp n cs' _ h2 (hwe _ (List.mem_map.2 ⟨i,by simpa using hi,rfl⟩))
   obtain⟨b,off,spot⟩:=a
   rw[hc] at h1
   -- the address is plain: its first element could be read
   have h0:spot=none:=by
    cases spot with
    | none=>rfl
    | some s=>
     obtain⟨cs0,g1,_⟩:=hel 0 (by omega)
     rw[hc] at g1
     simp only[Nat.zero_mul,Addr.add,if_true] at g1
     rw[cells_spot hpos] at g1
     simp at g1
   subst h0
   rw[addr_add0] at h1
   exact⟨y,b,off,cs',rfl,cells_whole h1,hy⟩
  have hch:∃l:List α,l.length=len∧∀i (hi:i<l.length),∃b off vs,some a=some (⟨b,off,none⟩:Addr)∧hcells (whole W) b (off+i*Ty.sz α) (Ty.sz α)=some vs∧Ty.rep (whole W) vs l[i]:=by
   refine⟨(List.finRange len).map fun i=>Classical.choose (hall i.1 i.2),by simp,fun i hi=>?_⟩
   have hi':i<len:=by simpa using hi
   have:=Classical.choose_spec (hall i hi')
   simpa using this
  obtain⟨l,hl,hr⟩:=hch
  refine⟨l,some a,cap,by rw[hl],⟨by omega,?_⟩,trivial,hr⟩
  have:reachBytes<4611686018427387904:=by decide
  omega
theorem rd_two {α β:Type} [Ty α] [Ty β] {h:Heap}{cs:List Value}(h1:∃x:α,Ty.rep h (cs.take (Ty.sz α)) x) (h2:∃y:β,Ty.rep h (cs.drop (Ty.sz α)) y):∃z:α×β,Ty.rep h cs z:=by
 obtain⟨x,hx⟩:=h1
 obtain⟨y,hy⟩:=h2
 exact⟨(x,y),_,_,(List.take_append_drop _ cs).symm,hx,hy⟩
end
section
variable {P:Program}{W:World}{r:Reach}{base:Nat}{t e:TypeId}{v:Value}
theorem okWide_slice (ht:P.underlying t=some (.slice e)) (h:Value.okWide P W r base t v):∃a n c,v=.slice a n c:=by
 unfold Value.okWide at h
 rw[ht] at h
 simp only[Cell.okWide,ht] at h
 cases v <;> simp[Cell.ok,ht] at h ⊢
end
end Go.Proofs.YtbanccfdojgocaaGreat

namespace Go.Proofs.YtbanccfdojgocaaGreat
open Go Go.RowKit
def RdF (P:Program) (t:TypeId) (α:Type) [Ty α] (fuel:Nat):Prop:=∀{H:Type}(enc:TypeId×Value→H) (W:World) (sp:Nat→Bool) (cs:List Value) (x:DataW H×List MemPlace),
 DataW.trod enc P W 0 sp true fuel t cs=some x→wOk P t x.1→∃y:α,Ty.rep (whole W) cs y
theorem rd_listF {P:Program}{t:TypeId}{α:Type} [Ty α] {e:TypeId}(ht:P.underlying t=some (.slice e)) (hc:P.cellsOf e=Ty.sz α) (hpos:0<Ty.sz α) (hby:0<P.bytesOf e) {fuel:Nat}(he:∀n,n<fuel→RdF P e α n):RdF P t (List α) fuel:=by
 intro H enc W sp cs x h hwt
 rcases DataW.trod_slice ht h with ⟨rfl,_⟩ | ⟨a,len,cap,elems,rest,n,hfu,rfl,rfl,hb,hlc,hm,hlen,hel,hsp,hns⟩
 ·exact⟨[],none,0,rfl,by simp,trivial,fun i hi=>by simp at hi⟩
 ·simp only[wOk,DataW.weights,ht,List.mem_cons,List.mem_append] at hwt
  have hsz:len≤reachBytes:=by
   have h1:=hwt _ (.inl rfl)
   simp only[List.length_map] at h1
   have h2:len*1≤(elems.length+rest.length)*P.bytesOf e:=Nat.mul_le_mul (by omega) hby
   omega
  have hwe:=wOk_all (fun n hn=>hwt n (.inr (.inl hn)))
  have hall:∀i,i<len→∃y:α,∃b off vs,some a=some (⟨b,off,none⟩:Addr)∧hcells (whole W) b (off+i*Ty.sz α) (Ty.sz α)=some vs∧Ty.rep (whole W) vs y:=by
   intro i hi
   have hget:∀i,(hi:i<len)→∃cs',W.cells? 0 (a.add (i*P.cellsOf e)) (P.cellsOf e)=some cs'∧DataW.trod enc P W 0 sp true n e cs'=some (elems[i]'(by omega)):=by
    intro i hi
    have h1:=hel i hi
    rw[List.getElem?_eq_getElem (by omega)] at h1
    exact Option.bind_eq_some_iff.1 h1
   obtain⟨cs',h1,h2⟩:=hget i hi
   obtain⟨y,hy⟩:=he n (by omega) enc W sp cs' _ h2 (hwe _ (List.mem_map.2 ⟨_,List.getElem_mem (by omega),rfl⟩))
   obtain⟨b,off,spot⟩:=a
   rw[hc] at h1
   have h0:spot=none:=by
    cases spot with
    | none=>rfl
    | some s=>
     obtain⟨cs0,g1,_⟩:=hget 0 (by omega)
     rw[hc] at g1
     simp only[Nat.zero_mul,Addr.add,if_true] at g1
     rw[cells_spot hpos] at g1
     simp at g1
   subst h0
   rw[addr_add0] at h1
   exact⟨y,b,off,cs',rfl,cells_whole h1,hy⟩
  have hch:∃l:List α,l.length=len∧∀i (hi:i<l.length),∃b off vs,some a=some (⟨b,off,none⟩:Addr)∧hcells (whole W) b (off+i*Ty.sz α) (Ty.sz α)=some vs∧Ty.rep (whole W) vs l[i]:=by
   refine⟨(List.finRange len).map fun i=>Classical.choose (hall i.1 i.2),by simp,fun i hi=>?_⟩
   have hi':i<len:=by simpa using hi
   have:=Classical.choose_spec (hall i hi')
   simpa using this
  obtain⟨l,hl,hr⟩:=hch
  refine⟨l,some a,cap,by rw[hl],⟨by omega,?_⟩,trivial,hr⟩
  have:reachBytes<4611686018427387904:=by decide
  omega
end Go.Proofs.YtbanccfdojgocaaGreat

namespace Go.Proofs.YtbanccfdojgocaaGreat
open Go Go.RowKit Go.ChangeShapes
theorem laid:laidOutB Tryz.prog=true:=by kernel_rfl
theorem own0:ownKnob Tryz.prog.godebug=none:=by kernel_rfl
theorem rdF_Exq:∀fuel,RdF Tryz.prog 52 Exq fuel:=by
 intro fuel
 induction fuel using Nat.strongRecOn with
 | _ fuel ih=>
 intro H enc W sp cs x h hwt
 obtain⟨xs,n,hfu,rfl,hlen,hxs,hf⟩:=DataW.trod_struct Tryz.underlying52 h
 rw[show Tryz.prog.cellsOf 52=3 from by kernel_rfl] at hlen
 simp only[wOk,DataW.weights,Tryz.underlying52] at hwt
 have hw:=wOk_each hwt
 have hxs:xs.length=3:=hxs
 have F0:∃y:Int,Ty.rep (whole W) ((cs.drop 0).take 1) y:=by
  have h1:=hf 0 _ rfl
  rw[show Tryz.prog.cellsOf _=1 from by kernel_rfl,List.getElem?_eq_getElem (by omega:0<xs.length)] at h1
  exact rd_int Tryz.underlying3 enc W sp n _ _ h1 (hw 0 _ _ rfl (by simp[hxs]))
 have F1:∃y:Int,Ty.rep (whole W) ((cs.drop 1).take 1) y:=by
  have h1:=hf 1 _ rfl
  rw[show Tryz.prog.cellsOf _=1 from by kernel_rfl,List.getElem?_eq_getElem (by omega:1<xs.length)] at h1
  exact rd_int Tryz.underlying3 enc W sp n _ _ h1 (hw 1 _ _ rfl (by simp[hxs]))
 have F2:∃y:List Exq,Ty.rep (whole W) ((cs.drop 2).take 1) y:=by
  have h1:=hf 2 _ rfl
  rw[show Tryz.prog.cellsOf _=1 from by kernel_rfl,List.getElem?_eq_getElem (by omega:2<xs.length)] at h1
  exact rd_listF (α:=Exq) Tryz.underlying50 (by kernel_rfl) (by decide) (by rw[show Tryz.prog.bytesOf 52=40 from by kernel_rfl]; decide) (fun m hm=>ih m (by omega)) enc W sp _ _ h1 (hw 2 _ _ rfl (by simp[hxs]))
 have G2:∃y:List Exq,Ty.rep (whole W) (cs.drop 2) y:=by
  rw[List.take_of_length_le (by simp; omega)] at F2
  exact F2
 have G1:∃y:Int×List Exq,Ty.rep (whole W) (cs.drop 1) y:=rd_two F1 (by rw[List.drop_drop]; exact G2)
 have G0:∃y:Int×Int×List Exq,Ty.rep (whole W) (cs.drop 0) y:=rd_two F0 (by rw[List.drop_drop]; exact G1)
 obtain⟨z,hz⟩:=G0
 exact⟨Exq.mk z.1 z.2.1 z.2.2,Exq.rep_iff.2 hz⟩
theorem rd_Exq:RdT Tryz.prog 52 Exq:=fun enc W sp fuel cs x h hw=>rdF_Exq fuel enc W sp cs x h hw
end Go.Proofs.YtbanccfdojgocaaGreat

namespace Go.Proofs.YtbanccfdojgocaaGreat
open Go
def H_laws_FnExactMonitorRun:Hint:=⟨[(0,false),(1,false),(2,true),(4,false),(5,false),(6,false),(7,true),(8,false),(9,false),(10,false),(11,false),(12,false),(13,false)],[]⟩
def K11_1:C:=.seq (.pl <| .e 13 0 <|
 .x 3 (.mv (.c (.bool true))) .done) (.ret)
@[simp] def W11_1 := C.w K11_1.eq_1
def K11_2:C:=.seq (.pl <| .e 13 0 <|
 .x 3 (.mv (.c (.bool false))) .done) (.ret)
@[simp] def W11_2 := C.w K11_2.eq_1
def K11_3:C:=.cond 13 (.v 15) K11_2 (.skip)
@[simp] def W11_3 := C.w K11_3.eq_1
def K11_4:C:=.seq (.seq (.pl <| .e 13 3 <|
 .m 13 11 <|
 .m 14 10 <|
 .x 15 (.bin .neq (.v 13) (.v 14)) .done) K11_3) K11_1
@[simp] def W11_4 := C.w K11_4.eq_1
def K11_5:C:=.seq (.pl <| .e 13 0 <|
 .x 3 (.mv (.c (.bool false))) .done) (.ret)
@[simp] def W11_5 := C.w K11_5.eq_1
def K11_6:C:=.cond 13 (.v 14) K11_5 (.skip)
@[simp] def W11_6 := C.w K11_6.eq_1
def K11_7:C:=.seq (.seq (.pl <| .e 13 2 <|
 .m 13 11 <|
 .x 14 (.bin .lss (.v 13) (.c (.int .i64 0))) .done) K11_6) K11_4
@[simp] def W11_7 := C.w K11_7.eq_1
def K11_8:Pl:=.m 11 15 .done
@[simp] def W11_8 := Pl.w K11_8.eq_1
def K11_9:C:=.seq (.pl <| .e 13 3 <|
 .m 13 8 <|
 .m 14 11 <|
 .c 15 (.call fn_laws_heldIntS [.v 13,.v 14]) K11_8) K11_7
@[simp] def W11_9 := C.w K11_9.eq_1
def K11_10:C:=.seq (.pl <| .e 13 0 <|
 .x 11 (.mv (.c (.int .i64 1))) .done) K11_9
@[simp] def W11_10 := C.w K11_10.eq_1
def K11_11:C:=.seq (.pl <| .e 13 0 <|
 .x 3 (.mv (.c (.bool false))) .done) (.ret)
@[simp] def W11_11 := C.w K11_11.eq_1
def K11_12:C:=.cond 13 (.v 16) K11_11 (.skip)
@[simp] def W11_12 := C.w K11_12.eq_1
def K11_13:Pl:=.x 16 (.un .not (.v 15)) .done
@[simp] def W11_13 := Pl.w K11_13.eq_1
def K11_14:C:=.seq (.seq (.pl <| .e 13 4 <|
 .m 13 12 <|
 .m 14 5 <|
 .c 15 (.call fn_laws_eqIntS [.v 13,.v 14]) K11_13) K11_12) K11_10
@[simp] def W11_14 := C.w K11_14.eq_1
def K11_15:Pl:=.m 12 17 .done
@[simp] def W11_15 := Pl.w K11_15.eq_1
def K11_16:Pl:=.c 17 (.call fn_impl_MonitorRun [.v 14,.v 16]) K11_15
@[simp] def W11_16 := Pl.w K11_16.eq_1
def K11_17:Pl:=.m 15 1 <|
 .c 16 (.call fn_laws_toIntS [.v 15]) K11_16
@[simp] def W11_17 := Pl.w K11_17.eq_1
def K11_18:C:=.seq (.pl <| .e 13 5 <|
 .o (.pget (some 13) none 2 0 (some 3)) <|
 .c 14 (.call fn_laws_toFormula [.v 13]) K11_17) K11_14
@[simp] def W11_18 := C.w K11_18.eq_1
def K11_19:C:=.seq (.pl <| .e 13 0 <|
 .x 3 (.mv (.c (.bool false))) .done) (.ret)
@[simp] def W11_19 := C.w K11_19.eq_1
def K11_20:C:=.cond 13 (.v 15) K11_19 (.skip)
@[simp] def W11_20 := C.w K11_20.eq_1
def K11_21:C:=.seq (.seq (.pl <| .e 13 3 <|
 .m 13 11 <|
 .m 14 10 <|
 .x 15 (.bin .neq (.v 13) (.v 14)) .done) K11_20) K11_18
@[simp] def W11_21 := C.w K11_21.eq_1
def K11_22:C:=.seq (.pl <| .e 13 0 <|
 .x 3 (.mv (.c (.bool false))) .done) (.ret)
@[simp] def W11_22 := C.w K11_22.eq_1
def K11_23:C:=.cond 13 (.v 14) K11_22 (.skip)
@[simp] def W11_23 := C.w K11_23.eq_1
def K11_24:C:=.seq (.seq (.pl <| .e 13 2 <|
 .m 13 11 <|
 .x 14 (.bin .lss (.v 13) (.c (.int .i64 0))) .done) K11_23) K11_21
@[simp] def W11_24 := C.w K11_24.eq_1
def K11_25:Pl:=.m 11 15 .done
@[simp] def W11_25 := Pl.w K11_25.eq_1
def K11_26:C:=.seq (.pl <| .e 13 3 <|
 .m 13 8 <|
 .m 14 11 <|
 .c 15 (.call fn_laws_heldIntS [.v 13,.v 14]) K11_25) K11_24
@[simp] def W11_26 := C.w K11_26.eq_1
def K11_27:C:=.seq (.pl <| .e 13 0 <|
 .x 11 (.mv (.c (.int .i64 1))) .done) K11_26
@[simp] def W11_27 := C.w K11_27.eq_1
def K11_28:Pl:=.m 10 15 .done
@[simp] def W11_28 := Pl.w K11_28.eq_1
def K11_29:C:=.seq (.pl <| .e 13 3 <|
 .m 13 8 <|
 .m 14 10 <|
 .c 15 (.call fn_laws_markIntS [.v 13,.v 14]) K11_28) K11_27
@[simp] def W11_29 := C.w K11_29.eq_1
def K11_30:C:=.seq (.pl <| .e 13 0 <|
 .x 10 (.mv (.c (.int .i64 1))) .done) K11_29
@[simp] def W11_30 := C.w K11_30.eq_1
def K11_31:C:=.seq (.pl <| .e 13 0 <|
 .x 3 (.mv (.c (.bool false))) .done) (.ret)
@[simp] def W11_31 := C.w K11_31.eq_1
def K11_32:C:=.cond 13 (.v 20) K11_31 (.skip)
@[simp] def W11_32 := C.w K11_32.eq_1
def K11_33:Pl:=.n 15 (.px (some 19) (.un .not (.v 18))) <|
 .x 20 (.pick (.v 15) (.c (.bool true)) (.v 19)) .done
@[simp] def W11_33 := Pl.w K11_33.eq_1
def K11_34:C:=.seq (.seq (.pl <| .e 13 8 <|
 .m 13 9 <|
 .x 14 (.bin .lss (.v 13) (.c (.int .i64 0))) <|
 .m 15 14 <|
 .n 15 (.px (some 16) (.mv (.v 8))) <|
 .n 15 (.px (some 17) (.mv (.v 5))) <|
 .st (.act (some (.v 15,false)) (.ex (some 18) (.call fn_laws_eqIntS [.v 16,.v 17]))) K11_33) K11_32) K11_30
@[simp] def W11_34 := C.w K11_34.eq_1
def K11_35:Pl:=.m 9 15 .done
@[simp] def W11_35 := Pl.w K11_35.eq_1
def K11_36:C:=.seq (.pl <| .e 13 3 <|
 .m 13 7 <|
 .m 14 9 <|
 .c 15 (.call fn_laws_markIntS [.v 13,.v 14]) K11_35) K11_34
@[simp] def W11_36 := C.w K11_36.eq_1
def K11_37:Pl:=.m 9 15 .done
@[simp] def W11_37 := Pl.w K11_37.eq_1
def K11_38:C:=.seq (.pl <| .e 13 3 <|
 .o (.pget (some 13) none 6 0 (some 3)) <|
 .m 14 9 <|
 .c 15 (.call fn_laws_markFormula [.v 13,.v 14]) K11_37) K11_36
@[simp] def W11_38 := C.w K11_38.eq_1
def K11_39:C:=.seq (.pl <| .e 13 0 <|
 .x 9 (.mv (.c (.int .i64 1))) .done) K11_38
@[simp] def W11_39 := C.w K11_39.eq_1
def K11_40:C:=.seq (.pl <| .e 13 0 <|
 .x 3 (.mv (.c (.bool false))) .done) (.ret)
@[simp] def W11_40 := C.w K11_40.eq_1
def K11_41:C:=.cond 13 (.v 17) K11_40 (.skip)
@[simp] def W11_41 := C.w K11_41.eq_1
def K11_42:Pl:=.x 17 (.un .not (.v 16)) .done
@[simp] def W11_42 := Pl.w K11_42.eq_1
def K11_43:Pl:=.c 16 (.call fn_laws_eqIntS [.v 13,.v 15]) K11_42
@[simp] def W11_43 := Pl.w K11_43.eq_1
def K11_44:C:=.seq (.seq (.pl <| .e 13 5 <|
 .m 13 7 <|
 .m 14 1 <|
 .c 15 (.call fn_laws_toIntS [.v 14]) K11_43) K11_41) K11_39
@[simp] def W11_44 := C.w K11_44.eq_1
def K11_45:C:=.seq (.pl <| .e 13 0 <|
 .x 3 (.mv (.c (.bool false))) .done) (.ret)
@[simp] def W11_45 := C.w K11_45.eq_1
def K11_46:C:=.cond 13 (.v 17) K11_45 (.skip)
@[simp] def W11_46 := C.w K11_46.eq_1
def K11_47:Pl:=.x 17 (.un .not (.v 16)) .done
@[simp] def W11_47 := Pl.w K11_47.eq_1
def K11_48:Pl:=.c 16 (.call fn_laws_eqFormula [.v 13,.v 15]) K11_47
@[simp] def W11_48 := Pl.w K11_48.eq_1
def K11_49:C:=.seq (.seq (.pl <| .e 13 5 <|
 .o (.pget (some 13) none 6 0 (some 3)) <|
 .o (.pget (some 14) none 2 0 (some 3)) <|
 .c 15 (.call fn_laws_toFormula [.v 14]) K11_48) K11_46) K11_44
@[simp] def W11_49 := C.w K11_49.eq_1
def K11_50:C:=.seq (.pl <| .e 13 0 <|
 .x 3 (.mv (.c (.bool false))) .done) (.ret)
@[simp] def W11_50 := C.w K11_50.eq_1
def K11_51:C:=.cond 13 (.v 16) K11_50 (.skip)
@[simp] def W11_51 := C.w K11_51.eq_1
def K11_52:Pl:=.x 16 (.un .not (.v 15)) .done
@[simp] def W11_52 := Pl.w K11_52.eq_1
def K11_53:C:=.seq (.seq (.pl <| .e 13 4 <|
 .m 13 8 <|
 .m 14 5 <|
 .c 15 (.call fn_laws_eqIntS [.v 13,.v 14]) K11_52) K11_51) K11_49
@[simp] def W11_53 := C.w K11_53.eq_1
def K11_54:Pl:=.m 8 15 .done
@[simp] def W11_54 := Pl.w K11_54.eq_1
def K11_55:C:=.seq (.pl <| .e 13 3 <|
 .o (.pget (some 13) none 6 0 (some 3)) <|
 .m 14 7 <|
 .c 15 (.call fn_impl_MonitorRun [.v 13,.v 14]) K11_54) K11_53
@[simp] def W11_55 := C.w K11_55.eq_1
def K11_56:Pl:=.m 7 14 .done
@[simp] def W11_56 := Pl.w K11_56.eq_1
def K11_57:C:=.seq (.pl <| .e 13 2 <|
 .m 13 1 <|
 .c 14 (.call fn_laws_toIntS [.v 13]) K11_56) K11_55
@[simp] def W11_57 := C.w K11_57.eq_1
def K11_58:Pl:=.o (.pnew 6 (.c (.agg #[.int .i64 0,.int .i64 0,.slice none 0 0])) []) <|
 .o (.pset none 6 0 3 (.v 14)) .done
@[simp] def W11_58 := Pl.w K11_58.eq_1
def K11_59:C:=.seq (.pl <| .e 13 2 <|
 .o (.pget (some 13) none 2 0 (some 3)) <|
 .c 14 (.call fn_laws_toFormula [.v 13]) K11_58) K11_57
@[simp] def W11_59 := C.w K11_59.eq_1
def K11_60:Pl:=.m 5 17 .done
@[simp] def W11_60 := Pl.w K11_60.eq_1
def K11_61:Pl:=.c 17 (.call fn_spec_MonitorRun [.v 14,.v 16]) K11_60
@[simp] def W11_61 := Pl.w K11_61.eq_1
def K11_62:Pl:=.m 15 1 <|
 .c 16 (.call fn_laws_toIntS [.v 15]) K11_61
@[simp] def W11_62 := Pl.w K11_62.eq_1
def K11_63:C:=.seq (.pl <| .e 13 5 <|
 .o (.pget (some 13) none 2 0 (some 3)) <|
 .c 14 (.call fn_laws_toFormula [.v 13]) K11_62) K11_59
@[simp] def W11_63 := C.w K11_63.eq_1
def K11_64:C:=.seq (.pl <| .e 13 0 <|
 .x 3 (.mv (.c (.bool true))) .done) (.ret)
@[simp] def W11_64 := C.w K11_64.eq_1
def K11_65:C:=.cond 13 (.v 14) K11_64 (.skip)
@[simp] def W11_65 := C.w K11_65.eq_1
def K11_66:C:=.seq (.seq (.pl <| .e 13 2 <|
 .m 13 4 <|
 .x 14 (.bin .lss (.v 13) (.c (.int .i64 0))) .done) K11_65) K11_63
@[simp] def W11_66 := C.w K11_66.eq_1
def K11_67:Pl:=.m 4 15 .done
@[simp] def W11_67 := Pl.w K11_67.eq_1
def K11_68:C:=.seq (.pl <| .e 13 3 <|
 .o (.pget (some 13) none 2 0 (some 3)) <|
 .m 14 4 <|
 .c 15 (.call fn_laws_szFormula [.v 13,.v 14]) K11_67) K11_66
@[simp] def W11_68 := C.w K11_68.eq_1
def K11_69:C:=.seq (.pl <| .e 13 0 <|
 .x 4 (.mv (.c (.int .i64 1048576))) .done) K11_68
@[simp] def W11_69 := C.w K11_69.eq_1
def K11_70:C:=.seq (.pl <| .e 13 0 <|
 .x 3 (.mv (.c (.bool true))) .done) (.ret)
@[simp] def W11_70 := C.w K11_70.eq_1
def K11_71:C:=.cond 13 (.v 15) K11_70 (.skip)
@[simp] def W11_71 := C.w K11_71.eq_1
def K11_72:C:=.seq (.seq (.pl <| .e 13 3 <|
 .m 13 1 <|
 .x 14 (.lenV (.v 13)) <|
 .x 15 (.bin .gtr (.v 14) (.c (.int .i64 1048576))) .done) K11_71) K11_69
@[simp] def W11_72 := C.w K11_72.eq_1
def B_laws_FnExactMonitorRun:C:=.seq (.pl <| .e 13 0 <|
 .o (.pnew 2 (.v 0) []) <|
 .x 3 (.mv (.c (.bool false))) .done) K11_72
@[simp] def WB_laws_FnExactMonitorRun := C.w B_laws_FnExactMonitorRun.eq_1
def R_laws_FnExactMonitorRun:FIR:=⟨B_laws_FnExactMonitorRun,13,[(3,none)]⟩
theorem IR_laws_FnExactMonitorRun:cfun Tryz.prog H_laws_FnExactMonitorRun Tryz.f11=some R_laws_FnExactMonitorRun:=by kernel_rfl
theorem EN_laws_FnExactMonitorRun:ENT Tryz.prog B_laws_FnExactMonitorRun [(3,none)] 2 13 fn_laws_FnExactMonitorRun:=fun hargs hw=>enter Tryz.func11 rfl IR_laws_FnExactMonitorRun hargs hw
end Go.Proofs.YtbanccfdojgocaaGreat

namespace Go.Proofs.YtbanccfdojgocaaGreat
open Go
def H_impl_monitorRun:Hint:=⟨[(0,false),(1,false),(2,true),(4,false),(5,false),(6,true),(7,true),(8,false),(9,false),(10,false),(11,false),(12,false),(13,false),(14,false),(40,false),(41,false)],[[0,2,3,4,7,13]]⟩
def K105_1:C:=.seq (.pl <| .e 16 1 <|
 .m 16 12 <|
 .m 3 16 <|
 .x 4 (.mv (.c (.int .i64 0))) .done) (.ret)
@[simp] def W105_1 := C.w K105_1.eq_1
def K105_2:C:=.pl <| .e 16 1 <|
 .x 16 (.bin .add (.v 15) (.c (.int .i64 1))) <|
 .m 15 16 .done
@[simp] def W105_2 := C.w K105_2.eq_1
def K105_3:Pl:=.m 10 23 <|
 .m 11 31 .done
@[simp] def W105_3 := Pl.w K105_3.eq_1
def K105_4:Pl:=.st (.re 30 (.v 29) none none) <|
 .c 31 (.call fn_impl_Automaton_after [.v 24,.v 25,.v 26,.v 30]) K105_3
@[simp] def W105_4 := Pl.w K105_4.eq_1
def K105_5:C:=.pl <| .e 16 16 <|
 .o (.pget (some 16) none 5 0 (some 3)) <|
 .m 17 8 <|
 .m 18 10 <|
 .m 19 1 <|
 .m 20 13 <|
 .x 21 (.ia 1 (.v 19) (.v 20)) <|
 .l 22 21 <|
 .o (.pget (some 24) none 6 0 (some 3)) <|
 .m 25 9 <|
 .m 26 11 <|
 .m 27 1 <|
 .m 28 13 <|
 .x 29 (.ia 1 (.v 27) (.v 28)) <|
 .l 30 29 <|
 .c 23 (.call fn_impl_Automaton_after [.v 16,.v 17,.v 18,.v 22]) K105_4
@[simp] def W105_5 := C.w K105_5.eq_1
def K105_6:C:=.cond 16 (.v 19) K105_5 (.skip)
@[simp] def W105_6 := C.w K105_6.eq_1
def K105_7:C:=.seq (.pl <| .e 16 4 <|
 .m 16 13 <|
 .m 17 1 <|
 .x 18 (.lenV (.v 17)) <|
 .x 19 (.bin .lss (.v 16) (.v 18)) .done) K105_6
@[simp] def W105_7 := C.w K105_7.eq_1
def K105_8:C:=.pl <| .e 16 3 <|
 .m 16 12 <|
 .m 17 13 <|
 .x 18 (.ia 1 (.v 16) (.v 17)) <|
 .o (.ex none (.store 1 (.v 18) (.c (.int .i64 2)))) .done
@[simp] def W105_8 := C.w K105_8.eq_1
def K105_9:C:=.pl <| .e 16 3 <|
 .m 16 12 <|
 .m 17 13 <|
 .x 18 (.ia 1 (.v 16) (.v 17)) <|
 .o (.ex none (.store 1 (.v 18) (.c (.int .i64 1)))) .done
@[simp] def W105_9 := C.w K105_9.eq_1
def K105_10:C:=.cond 16 (.v 19) K105_9 (.skip)
@[simp] def W105_10 := C.w K105_10.eq_1
def K105_11:Pl:=.x 18 (.un .not (.v 17)) <|
 .m 19 18 .done
@[simp] def W105_11 := Pl.w K105_11.eq_1
def K105_12:C:=.seq (.pl <| .e 16 4 <|
 .m 16 11 <|
 .c 17 (.call fn_slices_Contains_S_bool_bool [.v 16,.c (.bool true)]) K105_11) K105_10
@[simp] def W105_12 := C.w K105_12.eq_1
def K105_13:C:=.cond 16 (.v 19) K105_8 K105_12
@[simp] def W105_13 := C.w K105_13.eq_1
def K105_14:Pl:=.x 18 (.un .not (.v 17)) <|
 .m 19 18 .done
@[simp] def W105_14 := Pl.w K105_14.eq_1
def K105_15:C:=.seq (.block 2 (.seq (.pl <| .e 16 4 <|
 .m 16 10 <|
 .c 17 (.call fn_slices_Contains_S_bool_bool [.v 16,.c (.bool true)]) K105_14) K105_13)) K105_7
@[simp] def W105_15 := C.w K105_15.eq_1
def K105_16:C:=.seq (.block 1 (.seq (.pl <| .e 16 1 <|
 .m 16 15 <|
 .m 13 16 .done) K105_15)) K105_2
@[simp] def W105_16 := C.w K105_16.eq_1
def K105_17:C:=.seq (.cond 16 (.v 16) (.skip) (.exit 0)) K105_16
@[simp] def W105_17 := C.w K105_17.eq_1
def K105_18:C:=.seq (.pl <| .e 16 1 <|
 .x 16 (.bin .lss (.v 15) (.v 14)) .done) K105_17
@[simp] def W105_18 := C.w K105_18.eq_1
def K105_19:C:=.block 0 (.loop 16 [0,2,3,4,7,13] K105_18)
@[simp] def W105_19 := C.w K105_19.eq_1
def K105_20:C:=.seq (.seq (.pl <| .e 16 1 <|
 .m 16 12 <|
 .x 14 (.lenV (.v 16)) <|
 .x 15 (.mv (.c (.int .i64 0))) .done) K105_19) K105_1
@[simp] def W105_20 := C.w K105_20.eq_1
def K105_21:Pl:=.m 12 19 .done
@[simp] def W105_21 := Pl.w K105_21.eq_1
def K105_22:C:=.seq (.pl <| .e 16 4 <|
 .m 16 1 <|
 .x 17 (.lenV (.v 16)) <|
 .x 18 (.bin .add (.v 17) (.c (.int .i64 1))) <|
 .c 19 (.mks 8 1 [.int .i64 0] (.v 18) (.v 18)) K105_21) K105_20
@[simp] def W105_22 := C.w K105_22.eq_1
def K105_23:Pl:=.m 10 18 <|
 .m 11 21 .done
@[simp] def W105_23 := Pl.w K105_23.eq_1
def K105_24:Pl:=.c 21 (.call fn_impl_Automaton_begin [.v 19,.v 20]) K105_23
@[simp] def W105_24 := Pl.w K105_24.eq_1
def K105_25:C:=.seq (.pl <| .e 16 6 <|
 .o (.pget (some 16) none 5 0 (some 3)) <|
 .m 17 8 <|
 .o (.pget (some 19) none 6 0 (some 3)) <|
 .m 20 9 <|
 .c 18 (.call fn_impl_Automaton_begin [.v 16,.v 17]) K105_24) K105_22
@[simp] def W105_25 := C.w K105_25.eq_1
def K105_26:Pl:=.m 8 17 <|
 .m 9 19 .done
@[simp] def W105_26 := Pl.w K105_26.eq_1
def K105_27:Pl:=.c 19 (.call fn_impl_Automaton_live [.v 18]) K105_26
@[simp] def W105_27 := Pl.w K105_27.eq_1
def K105_28:C:=.seq (.pl <| .e 16 4 <|
 .o (.pget (some 16) none 5 0 (some 3)) <|
 .o (.pget (some 18) none 6 0 (some 3)) <|
 .c 17 (.call fn_impl_Automaton_live [.v 16]) K105_27) K105_25
@[simp] def W105_28 := C.w K105_28.eq_1
def K105_29:C:=.seq (.pl <| .e 16 1 <|
 .m 16 7 <|
 .x 3 (.mv (.c (.slice none 0 0))) <|
 .m 4 16 .done) (.ret)
@[simp] def W105_29 := C.w K105_29.eq_1
def K105_30:C:=.cond 16 (.v 17) K105_29 (.skip)
@[simp] def W105_30 := C.w K105_30.eq_1
def K105_31:C:=.seq (.seq (.pl <| .e 16 2 <|
 .m 16 7 <|
 .x 17 (.bin .neq (.v 16) (.c (.int .i64 0))) .done) K105_30) K105_28
@[simp] def W105_31 := C.w K105_31.eq_1
def K105_32:Pl:=.m 19 18 <|
 .x 20 (.extract 0 (.v 19)) <|
 .x 21 (.extract 1 (.v 19)) <|
 .x 22 (.extract 2 (.v 19)) <|
 .o (.pnew 5 (.c (.agg #[.slice none 0 0,.slice none 0 0,.slice none 0 0])) []) <|
 .o (.pnew 6 (.c (.agg #[.slice none 0 0,.slice none 0 0,.slice none 0 0])) []) <|
 .o (.pset none 5 0 3 (.v 20)) <|
 .o (.pset none 6 0 3 (.v 21)) <|
 .m 7 22 .done
@[simp] def W105_32 := Pl.w K105_32.eq_1
def K105_33:C:=.seq (.pl <| .e 16 7 <|
 .o (.pget (some 16) none 2 0 (some 3)) <|
 .m 17 1 <|
 .c 18 (.call fn_impl_monitors [.v 16,.v 17]) K105_32) K105_31
@[simp] def W105_33 := C.w K105_33.eq_1
def B_impl_monitorRun:C:=.seq (.pl <| .e 16 0 <|
 .o (.pnew 2 (.v 0) []) <|
 .x 3 (.mv (.c (.slice none 0 0))) <|
 .x 4 (.mv (.c (.int .i64 0))) .done) K105_33
@[simp] def WB_impl_monitorRun := C.w B_impl_monitorRun.eq_1
def R_impl_monitorRun:FIR:=⟨B_impl_monitorRun,16,[(3,none),(4,none)]⟩
theorem IR_impl_monitorRun:cfun Tryz.prog H_impl_monitorRun Tryz.f105=some R_impl_monitorRun:=by kernel_rfl
theorem EN_impl_monitorRun:ENT Tryz.prog B_impl_monitorRun [(3,none),(4,none)] 2 16 fn_impl_monitorRun:=fun hargs hw=>enter Tryz.func105 rfl IR_impl_monitorRun hargs hw
def H_impl_monitors:Hint:=⟨[(0,false),(1,false),(2,true),(4,true),(5,true),(6,false),(7,true),(8,false),(9,true),(10,false)],[]⟩
def K163_1:C:=.seq (.pl <| .e 10 2 <|
 .o (.pget (some 10) none 6 0 (some 3)) <|
 .o (.pget (some 11) none 8 0 (some 3)) <|
 .o (.pset none 3 0 3 (.v 10)) <|
 .o (.pset none 4 0 3 (.v 11)) <|
 .x 5 (.mv (.c (.int .i64 0))) .done) (.ret)
@[simp] def W163_1 := C.w K163_1.eq_1
def K163_2:C:=.seq (.pl <| .e 10 2 <|
 .x 10 (.build [.slice none 0 0,.slice none 0 0,.slice none 0 0] []) <|
 .x 11 (.build [.slice none 0 0,.slice none 0 0,.slice none 0 0] []) <|
 .o (.pset none 3 0 3 (.v 10)) <|
 .o (.pset none 4 0 3 (.v 11)) <|
 .x 5 (.mv (.c (.int .i64 4))) .done) (.ret)
@[simp] def W163_2 := C.w K163_2.eq_1
def K163_3:C:=.cond 10 (.v 15) K163_2 (.skip)
@[simp] def W163_3 := C.w K163_3.eq_1
def K163_4:C:=.seq (.seq (.pl <| .e 10 6 <|
 .m 10 7 <|
 .x 11 (.un .not (.v 10)) <|
 .m 12 11 <|
 .n 12 (.px (some 13) (.mv (.v 9))) <|
 .n 12 (.px (some 14) (.un .not (.v 13))) <|
 .x 15 (.pick (.v 12) (.c (.bool true)) (.v 14)) .done) K163_3) K163_1
@[simp] def W163_4 := C.w K163_4.eq_1
def K163_5:Pl:=.m 12 11 <|
 .x 13 (.extract 0 (.v 12)) <|
 .x 14 (.extract 1 (.v 12)) <|
 .o (.pnew 8 (.c (.agg #[.slice none 0 0,.slice none 0 0,.slice none 0 0])) []) <|
 .o (.pset none 8 0 3 (.v 13)) <|
 .m 9 14 .done
@[simp] def W163_5 := Pl.w K163_5.eq_1
def K163_6:C:=.seq (.pl <| .e 10 5 <|
 .o (.pget (some 10) none 2 0 (some 3)) <|
 .c 11 (.call fn_impl_negated [.v 10]) K163_5) K163_4
@[simp] def W163_6 := C.w K163_6.eq_1
def K163_7:Pl:=.m 12 11 <|
 .x 13 (.extract 0 (.v 12)) <|
 .x 14 (.extract 1 (.v 12)) <|
 .o (.pnew 6 (.c (.agg #[.slice none 0 0,.slice none 0 0,.slice none 0 0])) []) <|
 .o (.pset none 6 0 3 (.v 13)) <|
 .m 7 14 .done
@[simp] def W163_7 := Pl.w K163_7.eq_1
def K163_8:C:=.seq (.pl <| .e 10 5 <|
 .o (.pget (some 10) none 2 0 (some 3)) <|
 .c 11 (.call fn_impl_TranslateFormula [.v 10]) K163_7) K163_6
@[simp] def W163_8 := C.w K163_8.eq_1
def K163_9:C:=.seq (.pl <| .e 10 2 <|
 .x 10 (.build [.slice none 0 0,.slice none 0 0,.slice none 0 0] []) <|
 .x 11 (.build [.slice none 0 0,.slice none 0 0,.slice none 0 0] []) <|
 .o (.pset none 3 0 3 (.v 10)) <|
 .o (.pset none 4 0 3 (.v 11)) <|
 .x 5 (.mv (.c (.int .i64 3))) .done) (.ret)
@[simp] def W163_9 := C.w K163_9.eq_1
def K163_10:C:=.cond 10 (.v 17) K163_9 (.skip)
@[simp] def W163_10 := C.w K163_10.eq_1
def K163_11:Pl:=.n 13 (.px (some 16) (.un .not (.v 15))) <|
 .x 17 (.pick (.v 13) (.c (.bool true)) (.v 16)) .done
@[simp] def W163_11 := Pl.w K163_11.eq_1
def K163_12:Pl:=.x 12 (.un .not (.v 11)) <|
 .m 13 12 <|
 .n 13 (.px (some 14) (.mv (.v 1))) <|
 .st (.act (some (.v 13,false)) (.ex (some 15) (.call fn_impl_wordOk [.v 14]))) K163_11
@[simp] def W163_12 := Pl.w K163_12.eq_1
def K163_13:C:=.seq (.seq (.pl <| .e 10 8 <|
 .o (.pget (some 10) none 2 0 (some 3)) <|
 .c 11 (.call fn_impl_FormulaValid [.v 10]) K163_12) K163_10) K163_8
@[simp] def W163_13 := C.w K163_13.eq_1
def B_impl_monitors:C:=.seq (.pl <| .e 10 0 <|
 .o (.pnew 2 (.v 0) []) <|
 .o (.pnew 3 (.c (.agg #[.slice none 0 0,.slice none 0 0,.slice none 0 0])) []) <|
 .o (.pnew 4 (.c (.agg #[.slice none 0 0,.slice none 0 0,.slice none 0 0])) []) <|
 .x 5 (.mv (.c (.int .i64 0))) .done) K163_13
@[simp] def WB_impl_monitors := C.w B_impl_monitors.eq_1
def R_impl_monitors:FIR:=⟨B_impl_monitors,10,[(3,some (some 3)),(4,some (some 3)),(5,none)]⟩
theorem IR_impl_monitors:cfun Tryz.prog H_impl_monitors Tryz.f163=some R_impl_monitors:=by kernel_rfl
theorem EN_impl_monitors:ENT Tryz.prog B_impl_monitors [(3,some (some 3)),(4,some (some 3)),(5,none)] 2 10 fn_impl_monitors:=fun hargs hw=>enter Tryz.func163 rfl IR_impl_monitors hargs hw
def H_impl_negated:Hint:=⟨[(0,false),(1,true),(2,true),(3,false),(4,true),(5,false)],[]⟩
def K194_1:Pl:=.x 8 (.extract 0 (.v 7)) <|
 .x 9 (.extract 1 (.v 7)) <|
 .o (.pset none 2 0 3 (.v 8)) <|
 .m 3 9 .done
@[simp] def W194_1 := Pl.w K194_1.eq_1
def K194_2:C:=.seq (.pl <| .e 6 4 <|
 .o (.pget (some 6) none 4 0 (some 3)) <|
 .c 7 (.call fn_impl_TranslateFormula [.v 6]) K194_1) (.ret)
@[simp] def W194_2 := C.w K194_2.eq_1
def K194_3:C:=.seq (.pl <| .e 6 1 <|
 .x 6 (.build [.slice none 0 0,.slice none 0 0,.slice none 0 0] []) <|
 .o (.pset none 2 0 3 (.v 6)) <|
 .x 3 (.mv (.c (.bool false))) .done) (.ret)
@[simp] def W194_3 := C.w K194_3.eq_1
def K194_4:C:=.cond 6 (.v 7) K194_3 (.skip)
@[simp] def W194_4 := C.w K194_4.eq_1
def K194_5:C:=.seq (.seq (.pl <| .e 6 2 <|
 .m 6 5 <|
 .x 7 (.un .not (.v 6)) .done) K194_4) K194_2
@[simp] def W194_5 := C.w K194_5.eq_1
def K194_6:Pl:=.m 8 7 <|
 .x 9 (.extract 0 (.v 8)) <|
 .x 10 (.extract 1 (.v 8)) <|
 .o (.pnew 4 (.c (.agg #[.int .i64 0,.int .i64 0,.slice none 0 0])) []) <|
 .o (.pset none 4 0 3 (.v 9)) <|
 .m 5 10 .done
@[simp] def W194_6 := Pl.w K194_6.eq_1
def K194_7:C:=.seq (.pl <| .e 6 5 <|
 .o (.pget (some 6) none 1 0 (some 3)) <|
 .c 7 (.call fn_impl_NegateFormula [.v 6]) K194_6) K194_5
@[simp] def W194_7 := C.w K194_7.eq_1
def B_impl_negated:C:=.seq (.pl <| .e 6 0 <|
 .o (.pnew 1 (.v 0) []) <|
 .o (.pnew 2 (.c (.agg #[.slice none 0 0,.slice none 0 0,.slice none 0 0])) []) <|
 .x 3 (.mv (.c (.bool false))) .done) K194_7
@[simp] def WB_impl_negated := C.w B_impl_negated.eq_1
def R_impl_negated:FIR:=⟨B_impl_negated,6,[(2,some (some 3)),(3,none)]⟩
theorem IR_impl_negated:cfun Tryz.prog H_impl_negated Tryz.f194=some R_impl_negated:=by kernel_rfl
theorem EN_impl_negated:ENT Tryz.prog B_impl_negated [(2,some (some 3)),(3,none)] 1 6 fn_impl_negated:=fun hargs hw=>enter Tryz.func194 rfl IR_impl_negated hargs hw
def H_impl_wordOk:Hint:=⟨[(0,false),(2,false)],[]⟩
def K193_1:Pl:=.x 8 (.pick (.v 5) (.v 7) (.c (.bool false))) <|
 .m 1 8 .done
@[simp] def W193_1 := Pl.w K193_1.eq_1
def K193_2:C:=.seq (.pl <| .e 2 7 <|
 .m 2 0 <|
 .x 3 (.lenV (.v 2)) <|
 .x 4 (.bin .leq (.v 3) (.c (.int .i64 200))) <|
 .m 5 4 <|
 .y 5 (.px (some 6) (.mv (.v 0))) <|
 .st (.act (some (.v 5,true)) (.ex (some 7) (.call fn_impl_letters [.v 6]))) K193_1) (.ret)
@[simp] def W193_2 := C.w K193_2.eq_1
def B_impl_wordOk:C:=.seq (.pl <| .e 2 0 <|
 .x 1 (.mv (.c (.bool false))) .done) K193_2
@[simp] def WB_impl_wordOk := C.w B_impl_wordOk.eq_1
def R_impl_wordOk:FIR:=⟨B_impl_wordOk,2,[(1,none)]⟩
theorem IR_impl_wordOk:cfun Tryz.prog H_impl_wordOk Tryz.f193=some R_impl_wordOk:=by kernel_rfl
theorem EN_impl_wordOk:ENT Tryz.prog B_impl_wordOk [(1,none)] 1 2 fn_impl_wordOk:=fun hargs hw=>enter Tryz.func193 rfl IR_impl_wordOk hargs hw
def H_spec_NegateFormula:Hint:=⟨[(0,false),(1,true),(2,true),(3,false),(4,true)],[]⟩
def K192_1:C:=.seq (.pl <| .e 5 1 <|
 .o (.pget (some 5) none 4 0 (some 3)) <|
 .o (.pset none 2 0 3 (.v 5)) <|
 .x 3 (.mv (.c (.bool true))) .done) (.ret)
@[simp] def W192_1 := C.w K192_1.eq_1
def K192_2:C:=.seq (.pl <| .e 5 1 <|
 .x 5 (.build [.int .i64 0,.int .i64 0,.slice none 0 0] []) <|
 .o (.pset none 2 0 3 (.v 5)) <|
 .x 3 (.mv (.c (.bool false))) .done) (.ret)
@[simp] def W192_2 := C.w K192_2.eq_1
def K192_3:C:=.cond 5 (.v 7) K192_2 (.skip)
@[simp] def W192_3 := C.w K192_3.eq_1
def K192_4:Pl:=.x 7 (.un .not (.v 6)) .done
@[simp] def W192_4 := Pl.w K192_4.eq_1
def K192_5:C:=.seq (.seq (.pl <| .e 5 3 <|
 .o (.pget (some 5) none 4 0 (some 3)) <|
 .c 6 (.call fn_spec_FormulaValid [.v 5]) K192_4) K192_3) K192_1
@[simp] def W192_5 := C.w K192_5.eq_1
def K192_6:Pl:=.o (.pnew 4 (.c (.agg #[.int .i64 0,.int .i64 0,.slice none 0 0])) []) <|
 .o (.pset none 4 0 3 (.v 7)) .done
@[simp] def W192_6 := Pl.w K192_6.eq_1
def K192_7:Pl:=.c 7 (.call fn_spec_l5Not [.v 6]) K192_6
@[simp] def W192_7 := Pl.w K192_7.eq_1
def K192_8:C:=.seq (.pl <| .e 5 3 <|
 .o (.pget (some 5) none 1 0 (some 3)) <|
 .c 6 (.call fn_spec_l5Copy [.v 5]) K192_7) K192_5
@[simp] def W192_8 := C.w K192_8.eq_1
def K192_9:Pl:=.o (.pset none 2 0 3 (.v 9)) <|
 .x 3 (.mv (.c (.bool true))) .done
@[simp] def W192_9 := Pl.w K192_9.eq_1
def K192_10:C:=.seq (.pl <| .e 5 5 <|
 .a 5 1 <|
 .g 6 5 1 2 <|
 .x 7 (.ia 3 (.v 6) (.c (.int .i64 0))) <|
 .o (.ld (some 8) (.v 7) (some 3)) <|
 .c 9 (.call fn_spec_l5Copy [.v 8]) K192_9) (.ret)
@[simp] def W192_10 := C.w K192_10.eq_1
def K192_11:C:=.cond 5 (.v 7) K192_10 (.skip)
@[simp] def W192_11 := C.w K192_11.eq_1
def K192_12:C:=.seq (.seq (.pl <| .e 5 3 <|
 .a 5 1 <|
 .g 6 5 1 0 <|
 .x 7 (.bin .eql (.v 6) (.c (.int .i64 3))) .done) K192_11) K192_8
@[simp] def W192_12 := C.w K192_12.eq_1
def K192_13:C:=.seq (.pl <| .e 5 1 <|
 .x 5 (.build [.int .i64 0,.int .i64 0,.slice none 0 0] []) <|
 .o (.pset none 2 0 3 (.v 5)) <|
 .x 3 (.mv (.c (.bool false))) .done) (.ret)
@[simp] def W192_13 := C.w K192_13.eq_1
def K192_14:C:=.cond 5 (.v 7) K192_13 (.skip)
@[simp] def W192_14 := C.w K192_14.eq_1
def K192_15:Pl:=.x 7 (.un .not (.v 6)) .done
@[simp] def W192_15 := Pl.w K192_15.eq_1
def K192_16:C:=.seq (.seq (.pl <| .e 5 3 <|
 .o (.pget (some 5) none 1 0 (some 3)) <|
 .c 6 (.call fn_spec_FormulaValid [.v 5]) K192_15) K192_14) K192_12
@[simp] def W192_16 := C.w K192_16.eq_1
def B_spec_NegateFormula:C:=.seq (.pl <| .e 5 0 <|
 .o (.pnew 1 (.v 0) []) <|
 .o (.pnew 2 (.c (.agg #[.int .i64 0,.int .i64 0,.slice none 0 0])) []) <|
 .x 3 (.mv (.c (.bool false))) .done) K192_16
@[simp] def WB_spec_NegateFormula := C.w B_spec_NegateFormula.eq_1
def R_spec_NegateFormula:FIR:=⟨B_spec_NegateFormula,5,[(2,some (some 3)),(3,none)]⟩
theorem IR_spec_NegateFormula:cfun Tryz.prog H_spec_NegateFormula Tryz.f192=some R_spec_NegateFormula:=by kernel_rfl
theorem EN_spec_NegateFormula:ENT Tryz.prog B_spec_NegateFormula [(2,some (some 3)),(3,none)] 1 5 fn_spec_NegateFormula:=fun hargs hw=>enter Tryz.func192 rfl IR_spec_NegateFormula hargs hw
def H_spec_l12Both:Hint:=⟨[(0,false),(1,true),(2,true),(3,true),(4,false),(5,true),(6,false),(7,true),(8,false)],[]⟩
def K103_1:C:=.seq (.pl <| .e 9 6 <|
 .o (.pget (some 9) none 5 0 (some 3)) <|
 .o (.pget (some 10) none 7 0 (some 3)) <|
 .m 11 6 <|
 .m 12 11 <|
 .y 12 (.px (some 13) (.mv (.v 8))) <|
 .x 14 (.pick (.v 12) (.v 13) (.c (.bool false))) <|
 .o (.pset none 2 0 3 (.v 9)) <|
 .o (.pset none 3 0 3 (.v 10)) <|
 .m 4 14 .done) (.ret)
@[simp] def W103_1 := C.w K103_1.eq_1
def K103_2:Pl:=.m 11 10 <|
 .x 12 (.extract 0 (.v 11)) <|
 .x 13 (.extract 1 (.v 11)) <|
 .o (.pnew 7 (.c (.agg #[.slice none 0 0,.slice none 0 0,.slice none 0 0])) []) <|
 .o (.pset none 7 0 3 (.v 12)) <|
 .m 8 13 .done
@[simp] def W103_2 := Pl.w K103_2.eq_1
def K103_3:C:=.seq (.pl <| .e 9 5 <|
 .o (.pget (some 9) none 1 0 (some 3)) <|
 .c 10 (.call fn_spec_l8Negation [.v 9]) K103_2) K103_1
@[simp] def W103_3 := C.w K103_3.eq_1
def K103_4:Pl:=.m 11 10 <|
 .x 12 (.extract 0 (.v 11)) <|
 .x 13 (.extract 1 (.v 11)) <|
 .o (.pnew 5 (.c (.agg #[.slice none 0 0,.slice none 0 0,.slice none 0 0])) []) <|
 .o (.pset none 5 0 3 (.v 12)) <|
 .m 6 13 .done
@[simp] def W103_4 := Pl.w K103_4.eq_1
def K103_5:C:=.seq (.pl <| .e 9 5 <|
 .o (.pget (some 9) none 1 0 (some 3)) <|
 .c 10 (.call fn_spec_TranslateFormula [.v 9]) K103_4) K103_3
@[simp] def W103_5 := C.w K103_5.eq_1
def B_spec_l12Both:C:=.seq (.pl <| .e 9 0 <|
 .o (.pnew 1 (.v 0) []) <|
 .o (.pnew 2 (.c (.agg #[.slice none 0 0,.slice none 0 0,.slice none 0 0])) []) <|
 .o (.pnew 3 (.c (.agg #[.slice none 0 0,.slice none 0 0,.slice none 0 0])) []) <|
 .x 4 (.mv (.c (.bool false))) .done) K103_5
@[simp] def WB_spec_l12Both := C.w B_spec_l12Both.eq_1
def R_spec_l12Both:FIR:=⟨B_spec_l12Both,9,[(2,some (some 3)),(3,some (some 3)),(4,none)]⟩
theorem IR_spec_l12Both:cfun Tryz.prog H_spec_l12Both Tryz.f103=some R_spec_l12Both:=by kernel_rfl
theorem EN_spec_l12Both:ENT Tryz.prog B_spec_l12Both [(2,some (some 3)),(3,some (some 3)),(4,none)] 1 9 fn_spec_l12Both:=fun hargs hw=>enter Tryz.func103 rfl IR_spec_l12Both hargs hw
def H_spec_l12States:Hint:=⟨[(0,false),(1,false),(2,true),(4,false),(5,false),(6,false),(7,false)],[[0,3]]⟩
def K162_1:Pl:=.m 3 9 .done
@[simp] def W162_1 := Pl.w K162_1.eq_1
def K162_2:C:=.seq (.pl <| .e 7 3 <|
 .o (.psl 7 [] []) <|
 .m 8 5 <|
 .c 9 (.app 8 1 [.int .i64 0] (.p 0 7) (.o (.v 8))) K162_1) (.ret)
@[simp] def W162_2 := C.w K162_2.eq_1
def K162_3:C:=.pl <| .e 7 2 <|
 .m 7 6 <|
 .x 8 (.bin .add (.v 7) (.c (.int .i64 1))) <|
 .m 6 8 .done
@[simp] def W162_3 := C.w K162_3.eq_1
def K162_4:Pl:=.m 5 15 .done
@[simp] def W162_4 := Pl.w K162_4.eq_1
def K162_5:Pl:=.c 15 (.call fn_spec_l12Only [.v 13,.v 14]) K162_4
@[simp] def W162_5 := Pl.w K162_5.eq_1
def K162_6:C:=.seq (.block 1 (.pl <| .e 7 9 <|
 .o (.pget (some 7) none 2 0 (some 3)) <|
 .m 8 5 <|
 .m 9 1 <|
 .m 10 6 <|
 .x 11 (.ia 1 (.v 9) (.v 10)) <|
 .l 12 11 <|
 .m 14 4 <|
 .c 13 (.call fn_spec_l12Step [.v 7,.v 8,.v 12]) K162_5)) K162_3
@[simp] def W162_6 := C.w K162_6.eq_1
def K162_7:C:=.cond 7 (.v 10) (.skip) (.exit 0)
@[simp] def W162_7 := C.w K162_7.eq_1
def K162_8:C:=.seq (.seq (.pl <| .e 7 4 <|
 .m 7 6 <|
 .m 8 1 <|
 .x 9 (.lenV (.v 8)) <|
 .x 10 (.bin .lss (.v 7) (.v 9)) .done) K162_7) K162_6
@[simp] def W162_8 := C.w K162_8.eq_1
def K162_9:C:=.block 0 (.loop 7 [0,3] K162_8)
@[simp] def W162_9 := C.w K162_9.eq_1
def K162_10:C:=.seq (.seq (.pl <| .e 7 0 <|
 .x 6 (.mv (.c (.int .i64 0))) .done) K162_9) K162_2
@[simp] def W162_10 := C.w K162_10.eq_1
def K162_11:Pl:=.m 5 10 .done
@[simp] def W162_11 := Pl.w K162_11.eq_1
def K162_12:C:=.seq (.pl <| .e 7 4 <|
 .a 7 2 <|
 .g 8 7 2 0 <|
 .m 9 4 <|
 .c 10 (.call fn_spec_l12Only [.v 8,.v 9]) K162_11) K162_10
@[simp] def W162_12 := C.w K162_12.eq_1
def K162_13:Pl:=.m 4 8 .done
@[simp] def W162_13 := Pl.w K162_13.eq_1
def K162_14:C:=.seq (.pl <| .e 7 2 <|
 .o (.pget (some 7) none 2 0 (some 3)) <|
 .c 8 (.call fn_spec_LiveStates [.v 7]) K162_13) K162_12
@[simp] def W162_14 := C.w K162_14.eq_1
def B_spec_l12States:C:=.seq (.pl <| .e 7 0 <|
 .o (.pnew 2 (.v 0) []) <|
 .x 3 (.mv (.c (.slice none 0 0))) .done) K162_14
@[simp] def WB_spec_l12States := C.w B_spec_l12States.eq_1
def R_spec_l12States:FIR:=⟨B_spec_l12States,7,[(3,none)]⟩
theorem IR_spec_l12States:cfun Tryz.prog H_spec_l12States Tryz.f162=some R_spec_l12States:=by kernel_rfl
theorem EN_spec_l12States:ENT Tryz.prog B_spec_l12States [(3,none)] 2 7 fn_spec_l12States:=fun hargs hw=>enter Tryz.func162 rfl IR_spec_l12States hargs hw
def H_spec_l12Verdict:Hint:=⟨[(0,false),(1,false),(2,false),(3,true),(4,true),(6,false)],[]⟩
def K104_1:C:=.seq (.pl <| .e 6 0 <|
 .x 5 (.mv (.c (.int .i64 0))) .done) (.ret)
@[simp] def W104_1 := C.w K104_1.eq_1
def K104_2:C:=.seq (.pl <| .e 6 0 <|
 .x 5 (.mv (.c (.int .i64 1))) .done) (.ret)
@[simp] def W104_2 := C.w K104_2.eq_1
def K104_3:C:=.cond 6 (.v 10) K104_2 (.skip)
@[simp] def W104_3 := C.w K104_3.eq_1
def K104_4:Pl:=.x 9 (.lenV (.v 8)) <|
 .x 10 (.bin .eql (.v 9) (.c (.int .i64 0))) .done
@[simp] def W104_4 := Pl.w K104_4.eq_1
def K104_5:C:=.seq (.seq (.pl <| .e 6 5 <|
 .o (.pget (some 6) none 4 0 (some 3)) <|
 .m 7 2 <|
 .c 8 (.call fn_spec_l12States [.v 6,.v 7]) K104_4) K104_3) K104_1
@[simp] def W104_5 := C.w K104_5.eq_1
def K104_6:C:=.seq (.pl <| .e 6 0 <|
 .x 5 (.mv (.c (.int .i64 2))) .done) (.ret)
@[simp] def W104_6 := C.w K104_6.eq_1
def K104_7:C:=.cond 6 (.v 10) K104_6 (.skip)
@[simp] def W104_7 := C.w K104_7.eq_1
def K104_8:Pl:=.x 9 (.lenV (.v 8)) <|
 .x 10 (.bin .eql (.v 9) (.c (.int .i64 0))) .done
@[simp] def W104_8 := Pl.w K104_8.eq_1
def K104_9:C:=.seq (.seq (.pl <| .e 6 5 <|
 .o (.pget (some 6) none 3 0 (some 3)) <|
 .m 7 2 <|
 .c 8 (.call fn_spec_l12States [.v 6,.v 7]) K104_8) K104_7) K104_5
@[simp] def W104_9 := C.w K104_9.eq_1
def B_spec_l12Verdict:C:=.seq (.pl <| .e 6 0 <|
 .o (.pnew 3 (.v 0) []) <|
 .o (.pnew 4 (.v 1) []) <|
 .x 5 (.mv (.c (.int .i64 0))) .done) K104_9
@[simp] def WB_spec_l12Verdict := C.w B_spec_l12Verdict.eq_1
def R_spec_l12Verdict:FIR:=⟨B_spec_l12Verdict,6,[(5,none)]⟩
theorem IR_spec_l12Verdict:cfun Tryz.prog H_spec_l12Verdict Tryz.f104=some R_spec_l12Verdict:=by kernel_rfl
theorem EN_spec_l12Verdict:ENT Tryz.prog B_spec_l12Verdict [(5,none)] 3 6 fn_spec_l12Verdict:=fun hargs hw=>enter Tryz.func104 rfl IR_spec_l12Verdict hargs hw
def H_spec_l12Word:Hint:=⟨[(0,false),(2,false)],[]⟩
def K102_1:Pl:=.m 4 3 <|
 .y 4 (.px (some 5) (.mv (.v 0))) <|
 .y 4 (.px (some 6) (.lenV (.v 5))) <|
 .y 4 (.px (some 7) (.bin .leq (.v 6) (.c (.int .i64 200)))) <|
 .x 8 (.pick (.v 4) (.v 7) (.c (.bool false))) <|
 .m 1 8 .done
@[simp] def W102_1 := Pl.w K102_1.eq_1
def K102_2:C:=.seq (.pl <| .e 2 7 <|
 .m 2 0 <|
 .c 3 (.call fn_spec_l6Letters [.v 2]) K102_1) (.ret)
@[simp] def W102_2 := C.w K102_2.eq_1
def B_spec_l12Word:C:=.seq (.pl <| .e 2 0 <|
 .x 1 (.mv (.c (.bool false))) .done) K102_2
@[simp] def WB_spec_l12Word := C.w B_spec_l12Word.eq_1
def R_spec_l12Word:FIR:=⟨B_spec_l12Word,2,[(1,none)]⟩
theorem IR_spec_l12Word:cfun Tryz.prog H_spec_l12Word Tryz.f102=some R_spec_l12Word:=by kernel_rfl
theorem EN_spec_l12Word:ENT Tryz.prog B_spec_l12Word [(1,none)] 1 2 fn_spec_l12Word:=fun hargs hw=>enter Tryz.func102 rfl IR_spec_l12Word hargs hw
def H_spec_l6Letters:Hint:=⟨[(0,false),(2,false),(3,false)],[[1]]⟩
def K160_1:C:=.seq (.pl <| .e 3 0 <|
 .x 1 (.mv (.c (.bool true))) .done) (.ret)
@[simp] def W160_1 := C.w K160_1.eq_1
def K160_2:C:=.pl <| .e 3 2 <|
 .m 3 2 <|
 .x 4 (.bin .add (.v 3) (.c (.int .i64 1))) <|
 .m 2 4 .done
@[simp] def W160_2 := C.w K160_2.eq_1
def K160_3:C:=.seq (.pl <| .e 3 0 <|
 .x 1 (.mv (.c (.bool false))) .done) (.ret)
@[simp] def W160_3 := C.w K160_3.eq_1
def K160_4:C:=.cond 3 (.v 14) K160_3 (.skip)
@[simp] def W160_4 := C.w K160_4.eq_1
def K160_5:C:=.seq (.block 1 (.seq (.pl <| .e 3 12 <|
 .m 3 0 <|
 .m 4 2 <|
 .x 5 (.ia 1 (.v 3) (.v 4)) <|
 .l 6 5 <|
 .x 7 (.bin .lss (.v 6) (.c (.int .i64 0))) <|
 .m 8 7 <|
 .n 8 (.px (some 9) (.mv (.v 0))) <|
 .n 8 (.px (some 10) (.mv (.v 2))) <|
 .n 8 (.px (some 11) (.ia 1 (.v 9) (.v 10))) <|
 .n 8 (.ld (some 12) (.v 11) none) <|
 .n 8 (.px (some 13) (.bin .gtr (.v 12) (.c (.int .i64 7)))) <|
 .x 14 (.pick (.v 8) (.c (.bool true)) (.v 13)) .done) K160_4)) K160_2
@[simp] def W160_5 := C.w K160_5.eq_1
def K160_6:C:=.cond 3 (.v 6) (.skip) (.exit 0)
@[simp] def W160_6 := C.w K160_6.eq_1
def K160_7:C:=.seq (.seq (.pl <| .e 3 4 <|
 .m 3 2 <|
 .m 4 0 <|
 .x 5 (.lenV (.v 4)) <|
 .x 6 (.bin .lss (.v 3) (.v 5)) .done) K160_6) K160_5
@[simp] def W160_7 := C.w K160_7.eq_1
def K160_8:C:=.block 0 (.loop 3 [1] K160_7)
@[simp] def W160_8 := C.w K160_8.eq_1
def K160_9:C:=.seq (.seq (.pl <| .e 3 0 <|
 .x 2 (.mv (.c (.int .i64 0))) .done) K160_8) K160_1
@[simp] def W160_9 := C.w K160_9.eq_1
def B_spec_l6Letters:C:=.seq (.pl <| .e 3 0 <|
 .x 1 (.mv (.c (.bool false))) .done) K160_9
@[simp] def WB_spec_l6Letters := C.w B_spec_l6Letters.eq_1
def R_spec_l6Letters:FIR:=⟨B_spec_l6Letters,3,[(1,none)]⟩
theorem IR_spec_l6Letters:cfun Tryz.prog H_spec_l6Letters Tryz.f160=some R_spec_l6Letters:=by kernel_rfl
theorem EN_spec_l6Letters:ENT Tryz.prog B_spec_l6Letters [(1,none)] 1 3 fn_spec_l6Letters:=fun hargs hw=>enter Tryz.func160 rfl IR_spec_l6Letters hargs hw
def H_spec_l8Negation:Hint:=⟨[(0,false),(1,true),(2,true),(3,false),(4,true),(5,false)],[]⟩
def K161_1:Pl:=.x 8 (.extract 0 (.v 7)) <|
 .x 9 (.extract 1 (.v 7)) <|
 .o (.pset none 2 0 3 (.v 8)) <|
 .m 3 9 .done
@[simp] def W161_1 := Pl.w K161_1.eq_1
def K161_2:C:=.seq (.pl <| .e 6 4 <|
 .o (.pget (some 6) none 4 0 (some 3)) <|
 .c 7 (.call fn_spec_TranslateFormula [.v 6]) K161_1) (.ret)
@[simp] def W161_2 := C.w K161_2.eq_1
def K161_3:C:=.seq (.pl <| .e 6 1 <|
 .x 6 (.build [.slice none 0 0,.slice none 0 0,.slice none 0 0] []) <|
 .o (.pset none 2 0 3 (.v 6)) <|
 .x 3 (.mv (.c (.bool false))) .done) (.ret)
@[simp] def W161_3 := C.w K161_3.eq_1
def K161_4:C:=.cond 6 (.v 7) K161_3 (.skip)
@[simp] def W161_4 := C.w K161_4.eq_1
def K161_5:C:=.seq (.seq (.pl <| .e 6 2 <|
 .m 6 5 <|
 .x 7 (.un .not (.v 6)) .done) K161_4) K161_2
@[simp] def W161_5 := C.w K161_5.eq_1
def K161_6:Pl:=.m 8 7 <|
 .x 9 (.extract 0 (.v 8)) <|
 .x 10 (.extract 1 (.v 8)) <|
 .o (.pnew 4 (.c (.agg #[.int .i64 0,.int .i64 0,.slice none 0 0])) []) <|
 .o (.pset none 4 0 3 (.v 9)) <|
 .m 5 10 .done
@[simp] def W161_6 := Pl.w K161_6.eq_1
def K161_7:C:=.seq (.pl <| .e 6 5 <|
 .o (.pget (some 6) none 1 0 (some 3)) <|
 .c 7 (.call fn_spec_NegateFormula [.v 6]) K161_6) K161_5
@[simp] def W161_7 := C.w K161_7.eq_1
def B_spec_l8Negation:C:=.seq (.pl <| .e 6 0 <|
 .o (.pnew 1 (.v 0) []) <|
 .o (.pnew 2 (.c (.agg #[.slice none 0 0,.slice none 0 0,.slice none 0 0])) []) <|
 .x 3 (.mv (.c (.bool false))) .done) K161_7
@[simp] def WB_spec_l8Negation := C.w B_spec_l8Negation.eq_1
def R_spec_l8Negation:FIR:=⟨B_spec_l8Negation,6,[(2,some (some 3)),(3,none)]⟩
theorem IR_spec_l8Negation:cfun Tryz.prog H_spec_l8Negation Tryz.f161=some R_spec_l8Negation:=by kernel_rfl
theorem EN_spec_l8Negation:ENT Tryz.prog B_spec_l8Negation [(2,some (some 3)),(3,none)] 1 6 fn_spec_l8Negation:=fun hargs hw=>enter Tryz.func161 rfl IR_spec_l8Negation hargs hw
end Go.Proofs.YtbanccfdojgocaaGreat

namespace Go.Proofs.YtbanccfdojgocaaGreat
open Go
end Go.Proofs.YtbanccfdojgocaaGreat

namespace Go.Proofs.YtbanccfdojgocaaGreat
open Go
def H_impl_MonitorRun:Hint:=⟨[(0,false),(1,false),(2,true),(4,false),(5,false)],[]⟩
def K41_1:C:=.seq (.pl <| .e 5 1 <|
 .m 5 4 <|
 .m 3 5 .done) (.ret)
@[simp] def W41_1 := C.w K41_1.eq_1
def K41_2:Pl:=.m 8 7 <|
 .x 9 (.extract 0 (.v 8)) <|
 .x 10 (.extract 1 (.v 8)) <|
 .m 4 9 <|
 .m 11 10 .done
@[simp] def W41_2 := Pl.w K41_2.eq_1
def K41_3:C:=.seq (.pl <| .e 5 7 <|
 .o (.pget (some 5) none 2 0 (some 3)) <|
 .m 6 1 <|
 .c 7 (.call fn_impl_monitorRun [.v 5,.v 6]) K41_2) K41_1
@[simp] def W41_3 := C.w K41_3.eq_1
def B_impl_MonitorRun:C:=.seq (.pl <| .e 5 0 <|
 .o (.pnew 2 (.v 0) []) <|
 .x 3 (.mv (.c (.slice none 0 0))) .done) K41_3
@[simp] def WB_impl_MonitorRun := C.w B_impl_MonitorRun.eq_1
def R_impl_MonitorRun:FIR:=⟨B_impl_MonitorRun,5,[(3,none)]⟩
theorem IR_impl_MonitorRun:cfun Tryz.prog H_impl_MonitorRun Tryz.f41=some R_impl_MonitorRun:=by kernel_rfl
theorem EN_impl_MonitorRun:ENT Tryz.prog B_impl_MonitorRun [(3,none)] 2 5 fn_impl_MonitorRun:=fun hargs hw=>enter Tryz.func41 rfl IR_impl_MonitorRun hargs hw
def H_spec_MonitorRun:Hint:=⟨[(0,false),(1,false),(2,true),(4,false),(5,false),(6,true),(7,true),(8,false),(9,false)],[[0,2,3]]⟩
def K40_1:C:=.seq (.pl <| .e 9 1 <|
 .m 9 4 <|
 .m 3 9 .done) (.ret)
@[simp] def W40_1 := C.w K40_1.eq_1
def K40_2:C:=.pl <| .e 9 2 <|
 .m 9 8 <|
 .x 10 (.bin .add (.v 9) (.c (.int .i64 1))) <|
 .m 8 10 .done
@[simp] def W40_2 := C.w K40_2.eq_1
def K40_3:Pl:=.m 4 17 .done
@[simp] def W40_3 := Pl.w K40_3.eq_1
def K40_4:Pl:=.o (.psl 16 [.int .i64 0] [(0,1,.v 15)]) <|
 .c 17 (.app 8 1 [.int .i64 0] (.o (.v 9)) (.p 1 16)) K40_3
@[simp] def W40_4 := Pl.w K40_4.eq_1
def K40_5:C:=.seq (.block 1 (.pl <| .e 9 9 <|
 .m 9 4 <|
 .o (.pget (some 10) none 5 0 (some 3)) <|
 .o (.pget (some 11) none 6 0 (some 3)) <|
 .m 12 1 <|
 .m 13 8 <|
 .x 14 (.sliceV 1 (.v 12) none (some (.v 13)) none) <|
 .c 15 (.call fn_spec_l12Verdict [.v 10,.v 11,.v 14]) K40_4)) K40_2
@[simp] def W40_5 := C.w K40_5.eq_1
def K40_6:C:=.cond 9 (.v 15) (.skip) (.exit 0)
@[simp] def W40_6 := C.w K40_6.eq_1
def K40_7:C:=.seq (.seq (.pl <| .e 9 7 <|
 .m 9 8 <|
 .m 10 1 <|
 .x 11 (.lenV (.v 10)) <|
 .x 12 (.bin .leq (.v 9) (.v 11)) <|
 .m 13 12 <|
 .y 13 (.px (some 14) (.mv (.v 7))) <|
 .x 15 (.pick (.v 13) (.v 14) (.c (.bool false))) .done) K40_6) K40_5
@[simp] def W40_7 := C.w K40_7.eq_1
def K40_8:C:=.block 0 (.loop 9 [0,2,3] K40_7)
@[simp] def W40_8 := C.w K40_8.eq_1
def K40_9:C:=.seq (.seq (.pl <| .e 9 0 <|
 .x 8 (.mv (.c (.int .i64 0))) .done) K40_8) K40_1
@[simp] def W40_9 := C.w K40_9.eq_1
def K40_10:Pl:=.m 11 10 <|
 .x 12 (.extract 0 (.v 11)) <|
 .x 13 (.extract 1 (.v 11)) <|
 .x 14 (.extract 2 (.v 11)) <|
 .o (.pnew 5 (.c (.agg #[.slice none 0 0,.slice none 0 0,.slice none 0 0])) []) <|
 .o (.pnew 6 (.c (.agg #[.slice none 0 0,.slice none 0 0,.slice none 0 0])) []) <|
 .o (.pset none 5 0 3 (.v 12)) <|
 .o (.pset none 6 0 3 (.v 13)) <|
 .m 7 14 .done
@[simp] def W40_10 := Pl.w K40_10.eq_1
def K40_11:C:=.seq (.pl <| .e 9 6 <|
 .o (.pget (some 9) none 2 0 (some 3)) <|
 .c 10 (.call fn_spec_l12Both [.v 9]) K40_10) K40_9
@[simp] def W40_11 := C.w K40_11.eq_1
def K40_12:C:=.seq (.pl <| .e 9 1 <|
 .m 9 4 <|
 .m 3 9 .done) (.ret)
@[simp] def W40_12 := C.w K40_12.eq_1
def K40_13:C:=.cond 9 (.v 16) K40_12 (.skip)
@[simp] def W40_13 := C.w K40_13.eq_1
def K40_14:Pl:=.n 12 (.px (some 15) (.un .not (.v 14))) <|
 .x 16 (.pick (.v 12) (.c (.bool true)) (.v 15)) .done
@[simp] def W40_14 := Pl.w K40_14.eq_1
def K40_15:Pl:=.x 11 (.un .not (.v 10)) <|
 .m 12 11 <|
 .n 12 (.px (some 13) (.mv (.v 1))) <|
 .st (.act (some (.v 12,false)) (.ex (some 14) (.call fn_spec_l12Word [.v 13]))) K40_14
@[simp] def W40_15 := Pl.w K40_15.eq_1
def K40_16:C:=.seq (.seq (.pl <| .e 9 8 <|
 .o (.pget (some 9) none 2 0 (some 3)) <|
 .c 10 (.call fn_spec_FormulaValid [.v 9]) K40_15) K40_13) K40_11
@[simp] def W40_16 := C.w K40_16.eq_1
def K40_17:Pl:=.m 4 9 .done
@[simp] def W40_17 := Pl.w K40_17.eq_1
def K40_18:C:=.seq (.pl <| .e 9 1 <|
 .c 9 (.bls 1 0 [.int .i64 0] []) K40_17) K40_16
@[simp] def W40_18 := C.w K40_18.eq_1
def B_spec_MonitorRun:C:=.seq (.pl <| .e 9 0 <|
 .o (.pnew 2 (.v 0) []) <|
 .x 3 (.mv (.c (.slice none 0 0))) .done) K40_18
@[simp] def WB_spec_MonitorRun := C.w B_spec_MonitorRun.eq_1
def R_spec_MonitorRun:FIR:=⟨B_spec_MonitorRun,9,[(3,none)]⟩
theorem IR_spec_MonitorRun:cfun Tryz.prog H_spec_MonitorRun Tryz.f40=some R_spec_MonitorRun:=by kernel_rfl
theorem EN_spec_MonitorRun:ENT Tryz.prog B_spec_MonitorRun [(3,none)] 2 9 fn_spec_MonitorRun:=fun hargs hw=>enter Tryz.func40 rfl IR_spec_MonitorRun hargs hw
end Go.Proofs.YtbanccfdojgocaaGreat

namespace Go.Proofs.YtbanccfdojgocaaGreat
open Go
def H_impl_Automaton_after:Hint:=⟨[(0,false),(1,false),(2,false),(3,false),(4,true),(8,false),(9,false),(11,true),(16,false),(17,false),(18,false)],[[0,4,5,7]]⟩
def K96_1:C:=.seq (.pl <| .e 11 1 <|
 .m 11 6 <|
 .m 5 11 .done) (.ret)
@[simp] def W96_1 := C.w K96_1.eq_1
def K96_2:C:=.pl <| .e 11 1 <|
 .x 11 (.bin .add (.v 10) (.c (.int .i64 1))) <|
 .m 10 11 .done
@[simp] def W96_2 := C.w K96_2.eq_1
def K96_3:C:=.pl <| .e 11 4 <|
 .m 11 6 <|
 .a 12 7 <|
 .g 13 12 7 3 <|
 .x 14 (.ia 1 (.v 11) (.v 13)) <|
 .o (.ex none (.store 1 (.v 14) (.c (.bool true)))) .done
@[simp] def W96_3 := C.w K96_3.eq_1
def K96_4:C:=.cond 11 (.v 27) K96_3 (.skip)
@[simp] def W96_4 := C.w K96_4.eq_1
def K96_5:Pl:=.x 27 (.pick (.v 23) (.v 26) (.c (.bool false))) .done
@[simp] def W96_5 := Pl.w K96_5.eq_1
def K96_6:C:=.seq (.pl <| .e 11 17 <|
 .m 11 2 <|
 .a 12 7 <|
 .g 13 12 7 0 <|
 .x 14 (.ia 1 (.v 11) (.v 13)) <|
 .l 15 14 <|
 .m 16 15 <|
 .y 16 (.px (some 17) (.mv (.v 1))) <|
 .y 16 (.als 18 none 7) <|
 .y 16 (.pget (some 19) (some 18) 7 3 none) <|
 .y 16 (.px (some 20) (.ia 1 (.v 17) (.v 19))) <|
 .y 16 (.ld (some 21) (.v 20) none) <|
 .x 22 (.pick (.v 16) (.v 21) (.c (.bool false))) <|
 .m 23 22 <|
 .y 23 (.pget (some 24) none 7 0 (some 4)) <|
 .y 23 (.px (some 25) (.mv (.v 3))) <|
 .st (.act (some (.v 23,true)) (.ex (some 26) (.call fn_impl_Transition_takes [.v 24,.v 25]))) K96_5) K96_4
@[simp] def W96_6 := C.w K96_6.eq_1
def K96_7:C:=.seq (.block 1 (.seq (.pl <| .e 11 2 <|
 .x 11 (.ia 4 (.v 8) (.v 10)) <|
 .o (.ld (some 12) (.v 11) (some 4)) <|
 .o (.pnew 7 (.c (.agg #[.int .i64 0,.int .i64 0,.int .i64 0,.int .i64 0])) []) <|
 .o (.pset none 7 0 4 (.v 12)) .done) K96_6)) K96_2
@[simp] def W96_7 := C.w K96_7.eq_1
def K96_8:C:=.seq (.cond 11 (.v 11) (.skip) (.exit 0)) K96_7
@[simp] def W96_8 := C.w K96_8.eq_1
def K96_9:C:=.seq (.pl <| .e 11 1 <|
 .x 11 (.bin .lss (.v 10) (.v 9)) .done) K96_8
@[simp] def W96_9 := C.w K96_9.eq_1
def K96_10:C:=.block 0 (.loop 11 [0,4,5,7] K96_9)
@[simp] def W96_10 := C.w K96_10.eq_1
def K96_11:C:=.seq (.seq (.pl <| .e 11 1 <|
 .a 11 4 <|
 .g 8 11 4 2 <|
 .x 9 (.lenV (.v 8)) <|
 .x 10 (.mv (.c (.int .i64 0))) .done) K96_10) K96_1
@[simp] def W96_11 := C.w K96_11.eq_1
def K96_12:Pl:=.m 6 13 .done
@[simp] def W96_12 := Pl.w K96_12.eq_1
def K96_13:C:=.seq (.pl <| .e 11 3 <|
 .m 11 1 <|
 .x 12 (.lenV (.v 11)) <|
 .c 13 (.mks 1 1 [.bool false] (.v 12) (.v 12)) K96_12) K96_11
@[simp] def W96_13 := C.w K96_13.eq_1
def B_impl_Automaton_after:C:=.seq (.pl <| .e 11 0 <|
 .o (.pnew 4 (.v 0) []) <|
 .x 5 (.mv (.c (.slice none 0 0))) .done) K96_13
@[simp] def WB_impl_Automaton_after := C.w B_impl_Automaton_after.eq_1
def R_impl_Automaton_after:FIR:=⟨B_impl_Automaton_after,11,[(5,none)]⟩
theorem IR_impl_Automaton_after:cfun Tryz.prog H_impl_Automaton_after Tryz.f96=some R_impl_Automaton_after:=by kernel_rfl
theorem EN_impl_Automaton_after:ENT Tryz.prog B_impl_Automaton_after [(5,none)] 4 11 fn_impl_Automaton_after:=fun hargs hw=>enter Tryz.func96 rfl IR_impl_Automaton_after hargs hw
def H_impl_Automaton_begin:Hint:=⟨[(0,false),(1,false),(2,true),(4,false),(5,false),(7,false),(12,false),(13,false),(14,false)],[[0,2,3,5]]⟩
def K94_1:C:=.seq (.pl <| .e 9 1 <|
 .m 9 4 <|
 .m 3 9 .done) (.ret)
@[simp] def W94_1 := C.w K94_1.eq_1
def K94_2:C:=.pl <| .e 9 1 <|
 .x 9 (.bin .add (.v 8) (.c (.int .i64 1))) <|
 .m 8 9 .done
@[simp] def W94_2 := C.w K94_2.eq_1
def K94_3:C:=.pl <| .e 9 7 <|
 .m 9 4 <|
 .m 10 5 <|
 .m 11 1 <|
 .m 12 5 <|
 .x 13 (.ia 1 (.v 11) (.v 12)) <|
 .l 14 13 <|
 .x 15 (.ia 1 (.v 9) (.v 10)) <|
 .o (.ex none (.store 1 (.v 15) (.v 14))) .done
@[simp] def W94_3 := C.w K94_3.eq_1
def K94_4:C:=.seq (.block 1 (.seq (.pl <| .e 9 2 <|
 .x 9 (.ia 1 (.v 6) (.v 8)) <|
 .l 10 9 <|
 .m 5 10 .done) K94_3)) K94_2
@[simp] def W94_4 := C.w K94_4.eq_1
def K94_5:C:=.seq (.cond 9 (.v 9) (.skip) (.exit 0)) K94_4
@[simp] def W94_5 := C.w K94_5.eq_1
def K94_6:C:=.seq (.pl <| .e 9 1 <|
 .x 9 (.bin .lss (.v 8) (.v 7)) .done) K94_5
@[simp] def W94_6 := C.w K94_6.eq_1
def K94_7:C:=.block 0 (.loop 9 [0,2,3,5] K94_6)
@[simp] def W94_7 := C.w K94_7.eq_1
def K94_8:C:=.seq (.seq (.pl <| .e 9 1 <|
 .a 9 2 <|
 .g 6 9 2 0 <|
 .x 7 (.lenV (.v 6)) <|
 .x 8 (.mv (.c (.int .i64 0))) .done) K94_7) K94_1
@[simp] def W94_8 := C.w K94_8.eq_1
def K94_9:Pl:=.m 4 11 .done
@[simp] def W94_9 := Pl.w K94_9.eq_1
def K94_10:C:=.seq (.pl <| .e 9 3 <|
 .m 9 1 <|
 .x 10 (.lenV (.v 9)) <|
 .c 11 (.mks 1 1 [.bool false] (.v 10) (.v 10)) K94_9) K94_8
@[simp] def W94_10 := C.w K94_10.eq_1
def B_impl_Automaton_begin:C:=.seq (.pl <| .e 9 0 <|
 .o (.pnew 2 (.v 0) []) <|
 .x 3 (.mv (.c (.slice none 0 0))) .done) K94_10
@[simp] def WB_impl_Automaton_begin := C.w B_impl_Automaton_begin.eq_1
def R_impl_Automaton_begin:FIR:=⟨B_impl_Automaton_begin,9,[(3,none)]⟩
theorem IR_impl_Automaton_begin:cfun Tryz.prog H_impl_Automaton_begin Tryz.f94=some R_impl_Automaton_begin:=by kernel_rfl
theorem EN_impl_Automaton_begin:ENT Tryz.prog B_impl_Automaton_begin [(3,none)] 2 9 fn_impl_Automaton_begin:=fun hargs hw=>enter Tryz.func94 rfl IR_impl_Automaton_begin hargs hw
def H_impl_Automaton_live:Hint:=⟨[(0,false),(1,true),(2,false),(3,false),(4,false),(5,false),(6,false),(7,false),(8,false),(17,false),(18,false),(24,false),(25,false),(26,false)],[[0,2,6,7,8,11,12,13],[0,2,7,8]]⟩
def K93_1:C:=.seq (.pl <| .e 14 1 <|
 .m 14 5 <|
 .m 2 14 .done) (.ret)
@[simp] def W93_1 := C.w K93_1.eq_1
def K93_2:C:=.pl <| .e 14 1 <|
 .x 14 (.bin .add (.v 10) (.c (.int .i64 1))) <|
 .m 10 14 .done
@[simp] def W93_2 := C.w K93_2.eq_1
def K93_3:C:=.pl <| .e 14 1 <|
 .x 14 (.bin .add (.v 13) (.c (.int .i64 1))) <|
 .m 13 14 .done
@[simp] def W93_3 := C.w K93_3.eq_1
def K93_4:C:=.pl <| .e 14 23 <|
 .m 14 5 <|
 .m 15 6 <|
 .m 16 5 <|
 .m 17 6 <|
 .x 18 (.ia 1 (.v 16) (.v 17)) <|
 .l 19 18 <|
 .m 20 19 <|
 .n 20 (.px (some 21) (.mv (.v 8))) <|
 .n 20 (.px (some 22) (.mv (.v 21))) <|
 .y 22 (.px (some 23) (.mv (.v 4))) <|
 .y 22 (.px (some 24) (.mv (.v 7))) <|
 .y 22 (.px (some 25) (.ia 1 (.v 23) (.v 24))) <|
 .y 22 (.ld (some 26) (.v 25) none) <|
 .n 20 (.px (some 27) (.pick (.v 22) (.v 26) (.c (.bool false)))) <|
 .n 20 (.px (some 28) (.mv (.v 27))) <|
 .y 28 (.als 29 none 1) <|
 .y 28 (.pget (some 30) (some 29) 1 1 none) <|
 .y 28 (.px (some 31) (.mv (.v 7))) <|
 .y 28 (.px (some 32) (.ia 1 (.v 30) (.v 31))) <|
 .y 28 (.ld (some 33) (.v 32) none) <|
 .n 20 (.px (some 34) (.pick (.v 28) (.v 33) (.c (.bool false)))) <|
 .x 35 (.pick (.v 20) (.c (.bool true)) (.v 34)) <|
 .x 36 (.ia 1 (.v 14) (.v 15)) <|
 .o (.ex none (.store 1 (.v 36) (.v 35))) .done
@[simp] def W93_4 := C.w K93_4.eq_1
def K93_5:C:=.seq (.block 3 (.seq (.pl <| .e 14 3 <|
 .m 14 13 <|
 .x 15 (.ia 1 (.v 11) (.v 13)) <|
 .l 16 15 <|
 .m 7 14 <|
 .m 8 16 .done) K93_4)) K93_3
@[simp] def W93_5 := C.w K93_5.eq_1
def K93_6:C:=.seq (.cond 14 (.v 14) (.skip) (.exit 2)) K93_5
@[simp] def W93_6 := C.w K93_6.eq_1
def K93_7:C:=.seq (.pl <| .e 14 1 <|
 .x 14 (.bin .lss (.v 13) (.v 12)) .done) K93_6
@[simp] def W93_7 := C.w K93_7.eq_1
def K93_8:C:=.block 2 (.loop 14 [0,2,7,8] K93_7)
@[simp] def W93_8 := C.w K93_8.eq_1
def K93_9:Pl:=.x 12 (.lenV (.v 11)) <|
 .x 13 (.mv (.c (.int .i64 0))) .done
@[simp] def W93_9 := Pl.w K93_9.eq_1
def K93_10:Pl:=.c 11 (.call fn_impl_reachable [.v 14,.v 16]) K93_9
@[simp] def W93_10 := Pl.w K93_10.eq_1
def K93_11:C:=.seq (.pl <| .e 14 3 <|
 .m 14 3 <|
 .m 15 6 <|
 .c 16 (.bls 1 1 [.int .i64 0] [(0,1,.v 15)]) K93_10) K93_8
@[simp] def W93_11 := C.w K93_11.eq_1
def K93_12:C:=.seq (.block 1 (.seq (.pl <| .e 14 1 <|
 .m 14 10 <|
 .m 6 14 .done) K93_11)) K93_2
@[simp] def W93_12 := C.w K93_12.eq_1
def K93_13:C:=.seq (.cond 14 (.v 14) (.skip) (.exit 0)) K93_12
@[simp] def W93_13 := C.w K93_13.eq_1
def K93_14:C:=.seq (.pl <| .e 14 1 <|
 .x 14 (.bin .lss (.v 10) (.v 9)) .done) K93_13
@[simp] def W93_14 := C.w K93_14.eq_1
def K93_15:C:=.block 0 (.loop 14 [0,2,6,7,8,11,12,13] K93_14)
@[simp] def W93_15 := C.w K93_15.eq_1
def K93_16:C:=.seq (.seq (.pl <| .e 14 1 <|
 .m 14 3 <|
 .x 9 (.lenV (.v 14)) <|
 .x 10 (.mv (.c (.int .i64 0))) .done) K93_15) K93_1
@[simp] def W93_16 := C.w K93_16.eq_1
def K93_17:Pl:=.m 5 16 .done
@[simp] def W93_17 := Pl.w K93_17.eq_1
def K93_18:C:=.seq (.pl <| .e 14 3 <|
 .m 14 3 <|
 .x 15 (.lenV (.v 14)) <|
 .c 16 (.mks 1 1 [.bool false] (.v 15) (.v 15)) K93_17) K93_16
@[simp] def W93_18 := C.w K93_18.eq_1
def K93_19:Pl:=.m 4 15 .done
@[simp] def W93_19 := Pl.w K93_19.eq_1
def K93_20:C:=.seq (.pl <| .e 14 2 <|
 .m 14 3 <|
 .c 15 (.call fn_impl_cyclic [.v 14]) K93_19) K93_18
@[simp] def W93_20 := C.w K93_20.eq_1
def K93_21:Pl:=.m 3 15 .done
@[simp] def W93_21 := Pl.w K93_21.eq_1
def K93_22:C:=.seq (.pl <| .e 14 2 <|
 .o (.pget (some 14) none 1 0 (some 3)) <|
 .c 15 (.call fn_impl_Automaton_next [.v 14]) K93_21) K93_20
@[simp] def W93_22 := C.w K93_22.eq_1
def B_impl_Automaton_live:C:=.seq (.pl <| .e 14 0 <|
 .o (.pnew 1 (.v 0) []) <|
 .x 2 (.mv (.c (.slice none 0 0))) .done) K93_22
@[simp] def WB_impl_Automaton_live := C.w B_impl_Automaton_live.eq_1
def R_impl_Automaton_live:FIR:=⟨B_impl_Automaton_live,14,[(2,none)]⟩
theorem IR_impl_Automaton_live:cfun Tryz.prog H_impl_Automaton_live Tryz.f93=some R_impl_Automaton_live:=by kernel_rfl
theorem EN_impl_Automaton_live:ENT Tryz.prog B_impl_Automaton_live [(2,none)] 1 14 fn_impl_Automaton_live:=fun hargs hw=>enter Tryz.func93 rfl IR_impl_Automaton_live hargs hw
def H_slices_Contains_S_bool_bool:Hint:=⟨[(0,false),(1,false),(4,false)],[]⟩
def K95_1:Pl:=.x 6 (.bin .geq (.v 5) (.c (.int .i64 0))) <|
 .m 2 6 .done
@[simp] def W95_1 := Pl.w K95_1.eq_1
def K95_2:C:=.seq (.pl <| .e 3 4 <|
 .m 3 0 <|
 .m 4 1 <|
 .c 5 (.call fn_slices_Index_S_bool_bool [.v 3,.v 4]) K95_1) (.ret)
@[simp] def W95_2 := C.w K95_2.eq_1
def B_slices_Contains_S_bool_bool:C:=.seq (.pl <| .e 3 0 <|
 .x 2 (.mv (.c (.bool false))) .done) K95_2
@[simp] def WB_slices_Contains_S_bool_bool := C.w B_slices_Contains_S_bool_bool.eq_1
def R_slices_Contains_S_bool_bool:FIR:=⟨B_slices_Contains_S_bool_bool,3,[(2,none)]⟩
theorem IR_slices_Contains_S_bool_bool:cfun Tryz.prog H_slices_Contains_S_bool_bool Tryz.f95=some R_slices_Contains_S_bool_bool:=by kernel_rfl
theorem EN_slices_Contains_S_bool_bool:ENT Tryz.prog B_slices_Contains_S_bool_bool [(2,none)] 2 3 fn_slices_Contains_S_bool_bool:=fun hargs hw=>enter Tryz.func95 rfl IR_slices_Contains_S_bool_bool hargs hw
def H_slices_Index_S_bool_bool:Hint:=⟨[(0,false),(1,false),(4,false),(5,false),(7,false),(8,false)],[[2,3]]⟩
def K156_1:C:=.seq (.pl <| .e 6 0 <|
 .x 2 (.mv (.c (.int .i64 (-1)))) .done) (.ret)
@[simp] def W156_1 := C.w K156_1.eq_1
def K156_2:C:=.pl <| .e 6 1 <|
 .x 6 (.bin .add (.v 5) (.c (.int .i64 1))) <|
 .m 5 6 .done
@[simp] def W156_2 := C.w K156_2.eq_1
def K156_3:C:=.seq (.pl <| .e 6 1 <|
 .m 6 3 <|
 .m 2 6 .done) (.ret)
@[simp] def W156_3 := C.w K156_3.eq_1
def K156_4:C:=.cond 6 (.v 11) K156_3 (.skip)
@[simp] def W156_4 := C.w K156_4.eq_1
def K156_5:C:=.seq (.pl <| .e 6 6 <|
 .m 6 1 <|
 .m 7 0 <|
 .m 8 3 <|
 .x 9 (.ia 1 (.v 7) (.v 8)) <|
 .l 10 9 <|
 .x 11 (.eqb false (.v 6) (.v 10)) .done) K156_4
@[simp] def W156_5 := C.w K156_5.eq_1
def K156_6:C:=.seq (.block 1 (.seq (.pl <| .e 6 1 <|
 .m 6 5 <|
 .m 3 6 .done) K156_5)) K156_2
@[simp] def W156_6 := C.w K156_6.eq_1
def K156_7:C:=.seq (.cond 6 (.v 6) (.skip) (.exit 0)) K156_6
@[simp] def W156_7 := C.w K156_7.eq_1
def K156_8:C:=.seq (.pl <| .e 6 1 <|
 .x 6 (.bin .lss (.v 5) (.v 4)) .done) K156_7
@[simp] def W156_8 := C.w K156_8.eq_1
def K156_9:C:=.block 0 (.loop 6 [2,3] K156_8)
@[simp] def W156_9 := C.w K156_9.eq_1
def K156_10:C:=.seq (.seq (.pl <| .e 6 1 <|
 .m 6 0 <|
 .x 4 (.lenV (.v 6)) <|
 .x 5 (.mv (.c (.int .i64 0))) .done) K156_9) K156_1
@[simp] def W156_10 := C.w K156_10.eq_1
def B_slices_Index_S_bool_bool:C:=.seq (.pl <| .e 6 0 <|
 .x 2 (.mv (.c (.int .i64 0))) .done) K156_10
@[simp] def WB_slices_Index_S_bool_bool := C.w B_slices_Index_S_bool_bool.eq_1
def R_slices_Index_S_bool_bool:FIR:=⟨B_slices_Index_S_bool_bool,6,[(2,none)]⟩
theorem IR_slices_Index_S_bool_bool:cfun Tryz.prog H_slices_Index_S_bool_bool Tryz.f156=some R_slices_Index_S_bool_bool:=by kernel_rfl
theorem EN_slices_Index_S_bool_bool:ENT Tryz.prog B_slices_Index_S_bool_bool [(2,none)] 2 6 fn_slices_Index_S_bool_bool:=fun hargs hw=>enter Tryz.func156 rfl IR_slices_Index_S_bool_bool hargs hw
def H_spec_AutomatonValid:Hint:=⟨[(0,false),(1,true),(2,false),(3,false),(4,false),(5,false)],[[0,2,5],[0,2,4]]⟩
def K149_1:C:=.seq (.pl <| .e 6 0 <|
 .x 2 (.mv (.c (.bool true))) .done) (.ret)
@[simp] def W149_1 := C.w K149_1.eq_1
def K149_2:C:=.pl <| .e 6 2 <|
 .m 6 5 <|
 .x 7 (.bin .add (.v 6) (.c (.int .i64 1))) <|
 .m 5 7 .done
@[simp] def W149_2 := C.w K149_2.eq_1
def K149_3:C:=.seq (.pl <| .e 6 0 <|
 .x 2 (.mv (.c (.bool false))) .done) (.ret)
@[simp] def W149_3 := C.w K149_3.eq_1
def K149_4:C:=.cond 6 (.v 13) K149_3 (.skip)
@[simp] def W149_4 := C.w K149_4.eq_1
def K149_5:Pl:=.x 13 (.un .not (.v 12)) .done
@[simp] def W149_5 := Pl.w K149_5.eq_1
def K149_6:C:=.seq (.block 3 (.seq (.pl <| .e 6 8 <|
 .a 6 1 <|
 .g 7 6 1 2 <|
 .m 8 5 <|
 .x 9 (.ia 4 (.v 7) (.v 8)) <|
 .o (.ld (some 10) (.v 9) (some 4)) <|
 .m 11 3 <|
 .c 12 (.call fn_spec_l7Edge [.v 10,.v 11]) K149_5) K149_4)) K149_2
@[simp] def W149_6 := C.w K149_6.eq_1
def K149_7:C:=.cond 6 (.v 10) (.skip) (.exit 2)
@[simp] def W149_7 := C.w K149_7.eq_1
def K149_8:C:=.seq (.seq (.pl <| .e 6 5 <|
 .m 6 5 <|
 .a 7 1 <|
 .g 8 7 1 2 <|
 .x 9 (.lenV (.v 8)) <|
 .x 10 (.bin .lss (.v 6) (.v 9)) .done) K149_7) K149_6
@[simp] def W149_8 := C.w K149_8.eq_1
def K149_9:C:=.block 2 (.loop 6 [0,2,4] K149_8)
@[simp] def W149_9 := C.w K149_9.eq_1
def K149_10:C:=.seq (.seq (.pl <| .e 6 0 <|
 .x 5 (.mv (.c (.int .i64 0))) .done) K149_9) K149_1
@[simp] def W149_10 := C.w K149_10.eq_1
def K149_11:C:=.pl <| .e 6 2 <|
 .m 6 4 <|
 .x 7 (.bin .add (.v 6) (.c (.int .i64 1))) <|
 .m 4 7 .done
@[simp] def W149_11 := C.w K149_11.eq_1
def K149_12:C:=.seq (.pl <| .e 6 0 <|
 .x 2 (.mv (.c (.bool false))) .done) (.ret)
@[simp] def W149_12 := C.w K149_12.eq_1
def K149_13:C:=.cond 6 (.v 38) K149_12 (.skip)
@[simp] def W149_13 := C.w K149_13.eq_1
def K149_14:C:=.seq (.block 1 (.seq (.pl <| .e 6 33 <|
 .a 6 1 <|
 .g 7 6 1 0 <|
 .m 8 4 <|
 .x 9 (.ia 1 (.v 7) (.v 8)) <|
 .l 10 9 <|
 .x 11 (.bin .lss (.v 10) (.c (.int .i64 0))) <|
 .m 12 11 <|
 .n 12 (.als 13 none 1) <|
 .n 12 (.pget (some 14) (some 13) 1 0 none) <|
 .n 12 (.px (some 15) (.mv (.v 4))) <|
 .n 12 (.px (some 16) (.ia 1 (.v 14) (.v 15))) <|
 .n 12 (.ld (some 17) (.v 16) none) <|
 .n 12 (.px (some 18) (.mv (.v 3))) <|
 .n 12 (.px (some 19) (.bin .geq (.v 17) (.v 18))) <|
 .x 20 (.pick (.v 12) (.c (.bool true)) (.v 19)) <|
 .m 21 20 <|
 .n 21 (.px (some 22) (.mv (.v 4))) <|
 .n 21 (.px (some 23) (.bin .gtr (.v 22) (.c (.int .i64 0)))) <|
 .n 21 (.px (some 24) (.mv (.v 23))) <|
 .y 24 (.als 25 none 1) <|
 .y 24 (.pget (some 26) (some 25) 1 0 none) <|
 .y 24 (.px (some 27) (.mv (.v 4))) <|
 .y 24 (.px (some 28) (.bin .sub (.v 27) (.c (.int .i64 1)))) <|
 .y 24 (.px (some 29) (.ia 1 (.v 26) (.v 28))) <|
 .y 24 (.ld (some 30) (.v 29) none) <|
 .y 24 (.als 31 none 1) <|
 .y 24 (.pget (some 32) (some 31) 1 0 none) <|
 .y 24 (.px (some 33) (.mv (.v 4))) <|
 .y 24 (.px (some 34) (.ia 1 (.v 32) (.v 33))) <|
 .y 24 (.ld (some 35) (.v 34) none) <|
 .y 24 (.px (some 36) (.bin .geq (.v 30) (.v 35))) <|
 .n 21 (.px (some 37) (.pick (.v 24) (.v 36) (.c (.bool false)))) <|
 .x 38 (.pick (.v 21) (.c (.bool true)) (.v 37)) .done) K149_13)) K149_11
@[simp] def W149_14 := C.w K149_14.eq_1
def K149_15:C:=.cond 6 (.v 10) (.skip) (.exit 0)
@[simp] def W149_15 := C.w K149_15.eq_1
def K149_16:C:=.seq (.seq (.pl <| .e 6 5 <|
 .m 6 4 <|
 .a 7 1 <|
 .g 8 7 1 0 <|
 .x 9 (.lenV (.v 8)) <|
 .x 10 (.bin .lss (.v 6) (.v 9)) .done) K149_15) K149_14
@[simp] def W149_16 := C.w K149_16.eq_1
def K149_17:C:=.block 0 (.loop 6 [0,2,5] K149_16)
@[simp] def W149_17 := C.w K149_17.eq_1
def K149_18:C:=.seq (.seq (.pl <| .e 6 0 <|
 .x 4 (.mv (.c (.int .i64 0))) .done) K149_17) K149_10
@[simp] def W149_18 := C.w K149_18.eq_1
def K149_19:C:=.seq (.pl <| .e 6 0 <|
 .x 2 (.mv (.c (.bool false))) .done) (.ret)
@[simp] def W149_19 := C.w K149_19.eq_1
def K149_20:C:=.cond 6 (.v 24) K149_19 (.skip)
@[simp] def W149_20 := C.w K149_20.eq_1
def K149_21:C:=.seq (.seq (.pl <| .e 6 19 <|
 .m 6 3 <|
 .x 7 (.bin .lss (.v 6) (.c (.int .i64 1))) <|
 .m 8 7 <|
 .n 8 (.px (some 9) (.mv (.v 3))) <|
 .n 8 (.px (some 10) (.bin .gtr (.v 9) (.c (.int .i64 64)))) <|
 .x 11 (.pick (.v 8) (.c (.bool true)) (.v 10)) <|
 .m 12 11 <|
 .n 12 (.als 13 none 1) <|
 .n 12 (.pget (some 14) (some 13) 1 0 none) <|
 .n 12 (.px (some 15) (.lenV (.v 14))) <|
 .n 12 (.px (some 16) (.mv (.v 3))) <|
 .n 12 (.px (some 17) (.bin .gtr (.v 15) (.v 16))) <|
 .x 18 (.pick (.v 12) (.c (.bool true)) (.v 17)) <|
 .m 19 18 <|
 .n 19 (.als 20 none 1) <|
 .n 19 (.pget (some 21) (some 20) 1 2 none) <|
 .n 19 (.px (some 22) (.lenV (.v 21))) <|
 .n 19 (.px (some 23) (.bin .gtr (.v 22) (.c (.int .i64 2048)))) <|
 .x 24 (.pick (.v 19) (.c (.bool true)) (.v 23)) .done) K149_20) K149_18
@[simp] def W149_21 := C.w K149_21.eq_1
def K149_22:C:=.seq (.pl <| .e 6 3 <|
 .a 6 1 <|
 .g 7 6 1 1 <|
 .x 8 (.lenV (.v 7)) <|
 .m 3 8 .done) K149_21
@[simp] def W149_22 := C.w K149_22.eq_1
def B_spec_AutomatonValid:C:=.seq (.pl <| .e 6 0 <|
 .o (.pnew 1 (.v 0) []) <|
 .x 2 (.mv (.c (.bool false))) .done) K149_22
@[simp] def WB_spec_AutomatonValid := C.w B_spec_AutomatonValid.eq_1
def R_spec_AutomatonValid:FIR:=⟨B_spec_AutomatonValid,6,[(2,none)]⟩
theorem IR_spec_AutomatonValid:cfun Tryz.prog H_spec_AutomatonValid Tryz.f149=some R_spec_AutomatonValid:=by kernel_rfl
theorem EN_spec_AutomatonValid:ENT Tryz.prog B_spec_AutomatonValid [(2,none)] 1 6 fn_spec_AutomatonValid:=fun hargs hw=>enter Tryz.func149 rfl IR_spec_AutomatonValid hargs hw
def H_spec_LiveStates:Hint:=⟨[(0,false),(1,true),(2,false),(3,false),(4,false),(5,false),(6,false),(7,false),(8,false)],[[0,2,6,7,8],[0,2]]⟩
def K89_1:C:=.seq (.pl <| .e 9 1 <|
 .m 9 3 <|
 .m 2 9 .done) (.ret)
@[simp] def W89_1 := C.w K89_1.eq_1
def K89_2:C:=.pl <| .e 9 2 <|
 .m 9 5 <|
 .x 10 (.bin .add (.v 9) (.c (.int .i64 1))) <|
 .m 5 10 .done
@[simp] def W89_2 := C.w K89_2.eq_1
def K89_3:Pl:=.m 3 12 .done
@[simp] def W89_3 := Pl.w K89_3.eq_1
def K89_4:C:=.pl <| .e 9 4 <|
 .m 9 3 <|
 .m 10 7 <|
 .o (.psl 11 [.bool false] [(0,1,.v 10)]) <|
 .c 12 (.app 1 1 [.bool false] (.o (.v 9)) (.p 1 11)) K89_3
@[simp] def W89_4 := C.w K89_4.eq_1
def K89_5:C:=.pl <| .e 9 2 <|
 .m 9 8 <|
 .x 10 (.bin .add (.v 9) (.c (.int .i64 1))) <|
 .m 8 10 .done
@[simp] def W89_5 := C.w K89_5.eq_1
def K89_6:Pl:=.x 24 (.pick (.v 17) (.v 23) (.c (.bool false))) <|
 .m 7 24 .done
@[simp] def W89_6 := Pl.w K89_6.eq_1
def K89_7:C:=.seq (.block 3 (.pl <| .e 9 16 <|
 .a 9 1 <|
 .g 10 9 1 1 <|
 .m 11 6 <|
 .m 12 8 <|
 .x 13 (.ia 1 (.v 11) (.v 12)) <|
 .l 14 13 <|
 .x 15 (.ia 1 (.v 10) (.v 14)) <|
 .l 16 15 <|
 .m 17 16 <|
 .y 17 (.px (some 18) (.mv (.v 4))) <|
 .y 17 (.px (some 19) (.mv (.v 6))) <|
 .y 17 (.px (some 20) (.mv (.v 8))) <|
 .y 17 (.px (some 21) (.ia 1 (.v 19) (.v 20))) <|
 .y 17 (.ld (some 22) (.v 21) none) <|
 .st (.act (some (.v 17,true)) (.ex (some 23) (.call fn_spec_l7Loop [.v 18,.v 22]))) K89_6)) K89_5
@[simp] def W89_7 := C.w K89_7.eq_1
def K89_8:C:=.cond 9 (.v 16) (.skip) (.exit 2)
@[simp] def W89_8 := C.w K89_8.eq_1
def K89_9:C:=.seq (.seq (.pl <| .e 9 8 <|
 .m 9 8 <|
 .m 10 6 <|
 .x 11 (.lenV (.v 10)) <|
 .x 12 (.bin .lss (.v 9) (.v 11)) <|
 .m 13 12 <|
 .y 13 (.px (some 14) (.mv (.v 7))) <|
 .y 13 (.px (some 15) (.un .not (.v 14))) <|
 .x 16 (.pick (.v 13) (.v 15) (.c (.bool false))) .done) K89_8) K89_7
@[simp] def W89_9 := C.w K89_9.eq_1
def K89_10:C:=.block 2 (.loop 9 [0,2] K89_9)
@[simp] def W89_10 := C.w K89_10.eq_1
def K89_11:C:=.seq (.seq (.pl <| .e 9 0 <|
 .x 8 (.mv (.c (.int .i64 0))) .done) K89_10) K89_4
@[simp] def W89_11 := C.w K89_11.eq_1
def K89_12:C:=.seq (.pl <| .e 9 0 <|
 .x 7 (.mv (.c (.bool false))) .done) K89_11
@[simp] def W89_12 := C.w K89_12.eq_1
def K89_13:Pl:=.m 6 12 .done
@[simp] def W89_13 := Pl.w K89_13.eq_1
def K89_14:Pl:=.c 12 (.call fn_spec_l7Reach [.v 9,.v 11]) K89_13
@[simp] def W89_14 := Pl.w K89_14.eq_1
def K89_15:C:=.seq (.block 1 (.seq (.pl <| .e 9 4 <|
 .m 9 4 <|
 .m 10 5 <|
 .c 11 (.bls 1 1 [.int .i64 0] [(0,1,.v 10)]) K89_14) K89_12)) K89_2
@[simp] def W89_15 := C.w K89_15.eq_1
def K89_16:C:=.cond 9 (.v 13) (.skip) (.exit 0)
@[simp] def W89_16 := C.w K89_16.eq_1
def K89_17:C:=.seq (.seq (.pl <| .e 9 5 <|
 .m 9 5 <|
 .a 10 1 <|
 .g 11 10 1 1 <|
 .x 12 (.lenV (.v 11)) <|
 .x 13 (.bin .lss (.v 9) (.v 12)) .done) K89_16) K89_15
@[simp] def W89_17 := C.w K89_17.eq_1
def K89_18:C:=.block 0 (.loop 9 [0,2,6,7,8] K89_17)
@[simp] def W89_18 := C.w K89_18.eq_1
def K89_19:C:=.seq (.seq (.pl <| .e 9 0 <|
 .x 5 (.mv (.c (.int .i64 0))) .done) K89_18) K89_1
@[simp] def W89_19 := C.w K89_19.eq_1
def K89_20:Pl:=.m 4 10 .done
@[simp] def W89_20 := Pl.w K89_20.eq_1
def K89_21:C:=.seq (.pl <| .e 9 2 <|
 .o (.pget (some 9) none 1 0 (some 3)) <|
 .c 10 (.call fn_spec_l7Next [.v 9]) K89_20) K89_19
@[simp] def W89_21 := C.w K89_21.eq_1
def K89_22:C:=.seq (.pl <| .e 9 1 <|
 .m 9 3 <|
 .m 2 9 .done) (.ret)
@[simp] def W89_22 := C.w K89_22.eq_1
def K89_23:C:=.cond 9 (.v 11) K89_22 (.skip)
@[simp] def W89_23 := C.w K89_23.eq_1
def K89_24:Pl:=.x 11 (.un .not (.v 10)) .done
@[simp] def W89_24 := Pl.w K89_24.eq_1
def K89_25:C:=.seq (.seq (.pl <| .e 9 3 <|
 .o (.pget (some 9) none 1 0 (some 3)) <|
 .c 10 (.call fn_spec_AutomatonValid [.v 9]) K89_24) K89_23) K89_21
@[simp] def W89_25 := C.w K89_25.eq_1
def K89_26:Pl:=.m 3 9 .done
@[simp] def W89_26 := Pl.w K89_26.eq_1
def K89_27:C:=.seq (.pl <| .e 9 1 <|
 .c 9 (.bls 1 0 [.bool false] []) K89_26) K89_25
@[simp] def W89_27 := C.w K89_27.eq_1
def B_spec_LiveStates:C:=.seq (.pl <| .e 9 0 <|
 .o (.pnew 1 (.v 0) []) <|
 .x 2 (.mv (.c (.slice none 0 0))) .done) K89_27
@[simp] def WB_spec_LiveStates := C.w B_spec_LiveStates.eq_1
def R_spec_LiveStates:FIR:=⟨B_spec_LiveStates,9,[(2,none)]⟩
theorem IR_spec_LiveStates:cfun Tryz.prog H_spec_LiveStates Tryz.f89=some R_spec_LiveStates:=by kernel_rfl
theorem EN_spec_LiveStates:ENT Tryz.prog B_spec_LiveStates [(2,none)] 1 9 fn_spec_LiveStates:=fun hargs hw=>enter Tryz.func89 rfl IR_spec_LiveStates hargs hw
def H_spec_l10Sorted:Hint:=⟨[(0,false),(1,false),(4,false),(5,false),(6,false),(7,false)],[[2]]⟩
def K155_1:C:=.seq (.pl <| .e 6 1 <|
 .m 6 3 <|
 .m 2 6 .done) (.ret)
@[simp] def W155_1 := C.w K155_1.eq_1
def K155_2:Pl:=.m 3 9 .done
@[simp] def W155_2 := Pl.w K155_2.eq_1
def K155_3:C:=.pl <| .e 6 4 <|
 .m 6 3 <|
 .m 7 1 <|
 .o (.psl 8 [.int .i64 0] [(0,1,.v 7)]) <|
 .c 9 (.app 8 1 [.int .i64 0] (.o (.v 6)) (.p 1 8)) K155_2
@[simp] def W155_3 := C.w K155_3.eq_1
def K155_4:C:=.cond 6 (.v 7) K155_3 (.skip)
@[simp] def W155_4 := C.w K155_4.eq_1
def K155_5:C:=.seq (.seq (.pl <| .e 6 2 <|
 .m 6 4 <|
 .x 7 (.un .not (.v 6)) .done) K155_4) K155_1
@[simp] def W155_5 := C.w K155_5.eq_1
def K155_6:C:=.pl <| .e 6 2 <|
 .m 6 5 <|
 .x 7 (.bin .add (.v 6) (.c (.int .i64 1))) <|
 .m 5 7 .done
@[simp] def W155_6 := C.w K155_6.eq_1
def K155_7:Pl:=.m 3 12 .done
@[simp] def W155_7 := Pl.w K155_7.eq_1
def K155_8:C:=.pl <| .e 6 7 <|
 .m 6 3 <|
 .m 7 0 <|
 .m 8 5 <|
 .x 9 (.ia 1 (.v 7) (.v 8)) <|
 .l 10 9 <|
 .o (.psl 11 [.int .i64 0] [(0,1,.v 10)]) <|
 .c 12 (.app 8 1 [.int .i64 0] (.o (.v 6)) (.p 1 11)) K155_7
@[simp] def W155_8 := C.w K155_8.eq_1
def K155_9:C:=.pl <| .e 6 0 <|
 .x 4 (.mv (.c (.bool true))) .done
@[simp] def W155_9 := C.w K155_9.eq_1
def K155_10:Pl:=.m 3 9 .done
@[simp] def W155_10 := Pl.w K155_10.eq_1
def K155_11:C:=.seq (.pl <| .e 6 4 <|
 .m 6 3 <|
 .m 7 1 <|
 .o (.psl 8 [.int .i64 0] [(0,1,.v 7)]) <|
 .c 9 (.app 8 1 [.int .i64 0] (.o (.v 6)) (.p 1 8)) K155_10) K155_9
@[simp] def W155_11 := C.w K155_11.eq_1
def K155_12:C:=.cond 6 (.v 15) K155_11 (.skip)
@[simp] def W155_12 := C.w K155_12.eq_1
def K155_13:C:=.seq (.seq (.pl <| .e 6 10 <|
 .m 6 0 <|
 .m 7 5 <|
 .x 8 (.ia 1 (.v 6) (.v 7)) <|
 .l 9 8 <|
 .m 10 1 <|
 .x 11 (.bin .gtr (.v 9) (.v 10)) <|
 .m 12 11 <|
 .y 12 (.px (some 13) (.mv (.v 4))) <|
 .y 12 (.px (some 14) (.un .not (.v 13))) <|
 .x 15 (.pick (.v 12) (.v 14) (.c (.bool false))) .done) K155_12) K155_8
@[simp] def W155_13 := C.w K155_13.eq_1
def K155_14:C:=.seq (.pl <| .e 6 1 <|
 .m 6 0 <|
 .m 2 6 .done) (.ret)
@[simp] def W155_14 := C.w K155_14.eq_1
def K155_15:C:=.cond 6 (.v 11) K155_14 (.skip)
@[simp] def W155_15 := C.w K155_15.eq_1
def K155_16:C:=.seq (.block 1 (.seq (.seq (.pl <| .e 6 6 <|
 .m 6 0 <|
 .m 7 5 <|
 .x 8 (.ia 1 (.v 6) (.v 7)) <|
 .l 9 8 <|
 .m 10 1 <|
 .x 11 (.bin .eql (.v 9) (.v 10)) .done) K155_15) K155_13)) K155_6
@[simp] def W155_16 := C.w K155_16.eq_1
def K155_17:C:=.cond 6 (.v 9) (.skip) (.exit 0)
@[simp] def W155_17 := C.w K155_17.eq_1
def K155_18:C:=.seq (.seq (.pl <| .e 6 4 <|
 .m 6 5 <|
 .m 7 0 <|
 .x 8 (.lenV (.v 7)) <|
 .x 9 (.bin .lss (.v 6) (.v 8)) .done) K155_17) K155_16
@[simp] def W155_18 := C.w K155_18.eq_1
def K155_19:C:=.block 0 (.loop 6 [2] K155_18)
@[simp] def W155_19 := C.w K155_19.eq_1
def K155_20:C:=.seq (.seq (.pl <| .e 6 0 <|
 .x 5 (.mv (.c (.int .i64 0))) .done) K155_19) K155_5
@[simp] def W155_20 := C.w K155_20.eq_1
def K155_21:C:=.seq (.pl <| .e 6 0 <|
 .x 4 (.mv (.c (.bool false))) .done) K155_20
@[simp] def W155_21 := C.w K155_21.eq_1
def K155_22:Pl:=.m 3 6 .done
@[simp] def W155_22 := Pl.w K155_22.eq_1
def K155_23:C:=.seq (.pl <| .e 6 1 <|
 .c 6 (.bls 1 0 [.int .i64 0] []) K155_22) K155_21
@[simp] def W155_23 := C.w K155_23.eq_1
def B_spec_l10Sorted:C:=.seq (.pl <| .e 6 0 <|
 .x 2 (.mv (.c (.slice none 0 0))) .done) K155_23
@[simp] def WB_spec_l10Sorted := C.w B_spec_l10Sorted.eq_1
def R_spec_l10Sorted:FIR:=⟨B_spec_l10Sorted,6,[(2,none)]⟩
theorem IR_spec_l10Sorted:cfun Tryz.prog H_spec_l10Sorted Tryz.f155=some R_spec_l10Sorted:=by kernel_rfl
theorem EN_spec_l10Sorted:ENT Tryz.prog B_spec_l10Sorted [(2,none)] 2 6 fn_spec_l10Sorted:=fun hargs hw=>enter Tryz.func155 rfl IR_spec_l10Sorted hargs hw
def H_spec_l12Only:Hint:=⟨[(0,false),(1,false),(4,false),(5,false),(6,false)],[[2]]⟩
def K90_1:C:=.seq (.pl <| .e 5 1 <|
 .m 5 3 <|
 .m 2 5 .done) (.ret)
@[simp] def W90_1 := C.w K90_1.eq_1
def K90_2:C:=.pl <| .e 5 2 <|
 .m 5 4 <|
 .x 6 (.bin .add (.v 5) (.c (.int .i64 1))) <|
 .m 4 6 .done
@[simp] def W90_2 := C.w K90_2.eq_1
def K90_3:Pl:=.m 3 11 .done
@[simp] def W90_3 := Pl.w K90_3.eq_1
def K90_4:C:=.pl <| .e 5 7 <|
 .m 5 3 <|
 .m 6 0 <|
 .m 7 4 <|
 .x 8 (.ia 1 (.v 6) (.v 7)) <|
 .l 9 8 <|
 .o (.psl 10 [.int .i64 0] [(0,1,.v 9)]) <|
 .c 11 (.app 8 1 [.int .i64 0] (.o (.v 5)) (.p 1 10)) K90_3
@[simp] def W90_4 := C.w K90_4.eq_1
def K90_5:C:=.cond 5 (.v 11) K90_4 (.skip)
@[simp] def W90_5 := C.w K90_5.eq_1
def K90_6:C:=.seq (.block 1 (.seq (.pl <| .e 5 7 <|
 .m 5 1 <|
 .m 6 0 <|
 .m 7 4 <|
 .x 8 (.ia 1 (.v 6) (.v 7)) <|
 .l 9 8 <|
 .x 10 (.ia 1 (.v 5) (.v 9)) <|
 .l 11 10 .done) K90_5)) K90_2
@[simp] def W90_6 := C.w K90_6.eq_1
def K90_7:C:=.cond 5 (.v 8) (.skip) (.exit 0)
@[simp] def W90_7 := C.w K90_7.eq_1
def K90_8:C:=.seq (.seq (.pl <| .e 5 4 <|
 .m 5 4 <|
 .m 6 0 <|
 .x 7 (.lenV (.v 6)) <|
 .x 8 (.bin .lss (.v 5) (.v 7)) .done) K90_7) K90_6
@[simp] def W90_8 := C.w K90_8.eq_1
def K90_9:C:=.block 0 (.loop 5 [2] K90_8)
@[simp] def W90_9 := C.w K90_9.eq_1
def K90_10:C:=.seq (.seq (.pl <| .e 5 0 <|
 .x 4 (.mv (.c (.int .i64 0))) .done) K90_9) K90_1
@[simp] def W90_10 := C.w K90_10.eq_1
def K90_11:Pl:=.m 3 5 .done
@[simp] def W90_11 := Pl.w K90_11.eq_1
def K90_12:C:=.seq (.pl <| .e 5 1 <|
 .c 5 (.bls 1 0 [.int .i64 0] []) K90_11) K90_10
@[simp] def W90_12 := C.w K90_12.eq_1
def B_spec_l12Only:C:=.seq (.pl <| .e 5 0 <|
 .x 2 (.mv (.c (.slice none 0 0))) .done) K90_12
@[simp] def WB_spec_l12Only := C.w B_spec_l12Only.eq_1
def R_spec_l12Only:FIR:=⟨B_spec_l12Only,5,[(2,none)]⟩
theorem IR_spec_l12Only:cfun Tryz.prog H_spec_l12Only Tryz.f90=some R_spec_l12Only:=by kernel_rfl
theorem EN_spec_l12Only:ENT Tryz.prog B_spec_l12Only [(2,none)] 2 5 fn_spec_l12Only:=fun hargs hw=>enter Tryz.func90 rfl IR_spec_l12Only hargs hw
def H_spec_l12Step:Hint:=⟨[(0,false),(1,false),(2,false),(3,true),(6,false),(7,false),(8,false)],[[0,4]]⟩
def K91_1:C:=.seq (.pl <| .e 7 1 <|
 .m 7 5 <|
 .m 4 7 .done) (.ret)
@[simp] def W91_1 := C.w K91_1.eq_1
def K91_2:C:=.pl <| .e 7 2 <|
 .m 7 6 <|
 .x 8 (.bin .add (.v 7) (.c (.int .i64 1))) <|
 .m 6 8 .done
@[simp] def W91_2 := C.w K91_2.eq_1
def K91_3:Pl:=.m 5 14 .done
@[simp] def W91_3 := Pl.w K91_3.eq_1
def K91_4:C:=.pl <| .e 7 8 <|
 .m 7 5 <|
 .a 8 3 <|
 .g 9 8 3 2 <|
 .m 10 6 <|
 .x 11 (.ia 4 (.v 9) (.v 10)) <|
 .x 12 (.fa 3 (.v 11)) <|
 .l 13 12 <|
 .c 14 (.call fn_spec_l10Sorted [.v 7,.v 13]) K91_3
@[simp] def W91_4 := C.w K91_4.eq_1
def K91_5:C:=.cond 7 (.v 23) K91_4 (.skip)
@[simp] def W91_5 := C.w K91_5.eq_1
def K91_6:Pl:=.x 23 (.pick (.v 15) (.v 22) (.c (.bool false))) .done
@[simp] def W91_6 := Pl.w K91_6.eq_1
def K91_7:Pl:=.m 15 14 <|
 .y 15 (.als 16 none 3) <|
 .y 15 (.pget (some 17) (some 16) 3 2 none) <|
 .y 15 (.px (some 18) (.mv (.v 6))) <|
 .y 15 (.px (some 19) (.ia 4 (.v 17) (.v 18))) <|
 .y 15 (.ld (some 20) (.v 19) (some 4)) <|
 .y 15 (.px (some 21) (.mv (.v 2))) <|
 .st (.act (some (.v 15,true)) (.ex (some 22) (.call fn_spec_l7On [.v 20,.v 21]))) K91_6
@[simp] def W91_7 := Pl.w K91_7.eq_1
def K91_8:C:=.seq (.block 1 (.seq (.pl <| .e 7 17 <|
 .m 7 1 <|
 .a 8 3 <|
 .g 9 8 3 2 <|
 .m 10 6 <|
 .x 11 (.ia 4 (.v 9) (.v 10)) <|
 .x 12 (.fa 0 (.v 11)) <|
 .l 13 12 <|
 .c 14 (.call fn_spec_l4In [.v 7,.v 13]) K91_7) K91_5)) K91_2
@[simp] def W91_8 := C.w K91_8.eq_1
def K91_9:C:=.cond 7 (.v 11) (.skip) (.exit 0)
@[simp] def W91_9 := C.w K91_9.eq_1
def K91_10:C:=.seq (.seq (.pl <| .e 7 5 <|
 .m 7 6 <|
 .a 8 3 <|
 .g 9 8 3 2 <|
 .x 10 (.lenV (.v 9)) <|
 .x 11 (.bin .lss (.v 7) (.v 10)) .done) K91_9) K91_8
@[simp] def W91_10 := C.w K91_10.eq_1
def K91_11:C:=.block 0 (.loop 7 [0,4] K91_10)
@[simp] def W91_11 := C.w K91_11.eq_1
def K91_12:C:=.seq (.seq (.pl <| .e 7 0 <|
 .x 6 (.mv (.c (.int .i64 0))) .done) K91_11) K91_1
@[simp] def W91_12 := C.w K91_12.eq_1
def K91_13:Pl:=.m 5 7 .done
@[simp] def W91_13 := Pl.w K91_13.eq_1
def K91_14:C:=.seq (.pl <| .e 7 1 <|
 .c 7 (.bls 1 0 [.int .i64 0] []) K91_13) K91_12
@[simp] def W91_14 := C.w K91_14.eq_1
def B_spec_l12Step:C:=.seq (.pl <| .e 7 0 <|
 .o (.pnew 3 (.v 0) []) <|
 .x 4 (.mv (.c (.slice none 0 0))) .done) K91_14
@[simp] def WB_spec_l12Step := C.w B_spec_l12Step.eq_1
def R_spec_l12Step:FIR:=⟨B_spec_l12Step,7,[(4,none)]⟩
theorem IR_spec_l12Step:cfun Tryz.prog H_spec_l12Step Tryz.f91=some R_spec_l12Step:=by kernel_rfl
theorem EN_spec_l12Step:ENT Tryz.prog B_spec_l12Step [(4,none)] 3 7 fn_spec_l12Step:=fun hargs hw=>enter Tryz.func91 rfl IR_spec_l12Step hargs hw
def H_spec_l4In:Hint:=⟨[(0,false),(1,false),(4,false),(5,false)],[[2]]⟩
def K153_1:C:=.seq (.pl <| .e 4 0 <|
 .x 2 (.mv (.c (.bool false))) .done) (.ret)
@[simp] def W153_1 := C.w K153_1.eq_1
def K153_2:C:=.pl <| .e 4 2 <|
 .m 4 3 <|
 .x 5 (.bin .add (.v 4) (.c (.int .i64 1))) <|
 .m 3 5 .done
@[simp] def W153_2 := C.w K153_2.eq_1
def K153_3:C:=.seq (.pl <| .e 4 0 <|
 .x 2 (.mv (.c (.bool true))) .done) (.ret)
@[simp] def W153_3 := C.w K153_3.eq_1
def K153_4:C:=.cond 4 (.v 9) K153_3 (.skip)
@[simp] def W153_4 := C.w K153_4.eq_1
def K153_5:C:=.seq (.block 1 (.seq (.pl <| .e 4 6 <|
 .m 4 0 <|
 .m 5 3 <|
 .x 6 (.ia 1 (.v 4) (.v 5)) <|
 .l 7 6 <|
 .m 8 1 <|
 .x 9 (.bin .eql (.v 7) (.v 8)) .done) K153_4)) K153_2
@[simp] def W153_5 := C.w K153_5.eq_1
def K153_6:C:=.cond 4 (.v 7) (.skip) (.exit 0)
@[simp] def W153_6 := C.w K153_6.eq_1
def K153_7:C:=.seq (.seq (.pl <| .e 4 4 <|
 .m 4 3 <|
 .m 5 0 <|
 .x 6 (.lenV (.v 5)) <|
 .x 7 (.bin .lss (.v 4) (.v 6)) .done) K153_6) K153_5
@[simp] def W153_7 := C.w K153_7.eq_1
def K153_8:C:=.block 0 (.loop 4 [2] K153_7)
@[simp] def W153_8 := C.w K153_8.eq_1
def K153_9:C:=.seq (.seq (.pl <| .e 4 0 <|
 .x 3 (.mv (.c (.int .i64 0))) .done) K153_8) K153_1
@[simp] def W153_9 := C.w K153_9.eq_1
def B_spec_l4In:C:=.seq (.pl <| .e 4 0 <|
 .x 2 (.mv (.c (.bool false))) .done) K153_9
@[simp] def WB_spec_l4In := C.w B_spec_l4In.eq_1
def R_spec_l4In:FIR:=⟨B_spec_l4In,4,[(2,none)]⟩
theorem IR_spec_l4In:cfun Tryz.prog H_spec_l4In Tryz.f153=some R_spec_l4In:=by kernel_rfl
theorem EN_spec_l4In:ENT Tryz.prog B_spec_l4In [(2,none)] 2 4 fn_spec_l4In:=fun hargs hw=>enter Tryz.func153 rfl IR_spec_l4In hargs hw
def H_spec_l7Edge:Hint:=⟨[(0,false),(1,false),(2,true),(4,false)],[]⟩
def K190_1:C:=.seq (.pl <| .e 4 45 <|
 .a 4 2 <|
 .g 5 4 2 0 <|
 .x 6 (.bin .geq (.v 5) (.c (.int .i64 0))) <|
 .m 7 6 <|
 .y 7 (.als 8 none 2) <|
 .y 7 (.pget (some 9) (some 8) 2 0 none) <|
 .y 7 (.px (some 10) (.mv (.v 1))) <|
 .y 7 (.px (some 11) (.bin .lss (.v 9) (.v 10))) <|
 .x 12 (.pick (.v 7) (.v 11) (.c (.bool false))) <|
 .m 13 12 <|
 .y 13 (.als 14 none 2) <|
 .y 13 (.pget (some 15) (some 14) 2 3 none) <|
 .y 13 (.px (some 16) (.bin .geq (.v 15) (.c (.int .i64 0)))) <|
 .x 17 (.pick (.v 13) (.v 16) (.c (.bool false))) <|
 .m 18 17 <|
 .y 18 (.als 19 none 2) <|
 .y 18 (.pget (some 20) (some 19) 2 3 none) <|
 .y 18 (.px (some 21) (.mv (.v 1))) <|
 .y 18 (.px (some 22) (.bin .lss (.v 20) (.v 21))) <|
 .x 23 (.pick (.v 18) (.v 22) (.c (.bool false))) <|
 .m 24 23 <|
 .y 24 (.als 25 none 2) <|
 .y 24 (.pget (some 26) (some 25) 2 1 none) <|
 .y 24 (.px (some 27) (.bin .geq (.v 26) (.c (.int .i64 0)))) <|
 .x 28 (.pick (.v 24) (.v 27) (.c (.bool false))) <|
 .m 29 28 <|
 .y 29 (.als 30 none 2) <|
 .y 29 (.pget (some 31) (some 30) 2 1 none) <|
 .y 29 (.px (some 32) (.bin .leq (.v 31) (.c (.int .i64 7)))) <|
 .x 33 (.pick (.v 29) (.v 32) (.c (.bool false))) <|
 .m 34 33 <|
 .y 34 (.als 35 none 2) <|
 .y 34 (.pget (some 36) (some 35) 2 2 none) <|
 .y 34 (.px (some 37) (.bin .geq (.v 36) (.c (.int .i64 0)))) <|
 .x 38 (.pick (.v 34) (.v 37) (.c (.bool false))) <|
 .m 39 38 <|
 .y 39 (.als 40 none 2) <|
 .y 39 (.pget (some 41) (some 40) 2 2 none) <|
 .y 39 (.als 42 none 2) <|
 .y 39 (.pget (some 43) (some 42) 2 1 none) <|
 .y 39 (.px (some 44) (.bin .and (.v 41) (.v 43))) <|
 .y 39 (.als 45 none 2) <|
 .y 39 (.pget (some 46) (some 45) 2 2 none) <|
 .y 39 (.px (some 47) (.bin .eql (.v 44) (.v 46))) <|
 .x 48 (.pick (.v 39) (.v 47) (.c (.bool false))) <|
 .m 3 48 .done) (.ret)
@[simp] def W190_1 := C.w K190_1.eq_1
def B_spec_l7Edge:C:=.seq (.pl <| .e 4 0 <|
 .o (.pnew 2 (.v 0) []) <|
 .x 3 (.mv (.c (.bool false))) .done) K190_1
@[simp] def WB_spec_l7Edge := C.w B_spec_l7Edge.eq_1
def R_spec_l7Edge:FIR:=⟨B_spec_l7Edge,4,[(3,none)]⟩
theorem IR_spec_l7Edge:cfun Tryz.prog H_spec_l7Edge Tryz.f190=some R_spec_l7Edge:=by kernel_rfl
theorem EN_spec_l7Edge:ENT Tryz.prog B_spec_l7Edge [(3,none)] 2 4 fn_spec_l7Edge:=fun hargs hw=>enter Tryz.func190 rfl IR_spec_l7Edge hargs hw
def H_spec_l7Loop:Hint:=⟨[(0,false),(1,false),(4,false),(5,false),(6,false),(7,false),(8,false),(9,false)],[[2,4,5,6,7],[2,3,7]]⟩
def K152_1:C:=.seq (.pl <| .e 8 0 <|
 .x 2 (.mv (.c (.bool false))) .done) (.ret)
@[simp] def W152_1 := C.w K152_1.eq_1
def K152_2:C:=.pl <| .e 8 2 <|
 .m 8 6 <|
 .x 9 (.bin .add (.v 8) (.c (.int .i64 1))) <|
 .m 6 9 .done
@[simp] def W152_2 := C.w K152_2.eq_1
def K152_3:Pl:=.m 5 13 .done
@[simp] def W152_3 := Pl.w K152_3.eq_1
def K152_4:C:=.pl <| .e 8 6 <|
 .m 8 5 <|
 .m 9 0 <|
 .m 10 7 <|
 .x 11 (.ia 1 (.v 9) (.v 10)) <|
 .l 12 11 <|
 .c 13 (.app 8 1 [.int .i64 0] (.o (.v 8)) (.o (.v 12))) K152_3
@[simp] def W152_4 := C.w K152_4.eq_1
def K152_5:C:=.seq (.pl <| .e 8 3 <|
 .m 8 4 <|
 .m 9 7 <|
 .x 10 (.ia 1 (.v 8) (.v 9)) <|
 .o (.ex none (.store 1 (.v 10) (.c (.bool true)))) .done) K152_4
@[simp] def W152_5 := C.w K152_5.eq_1
def K152_6:C:=.cond 8 (.v 12) K152_5 (.skip)
@[simp] def W152_6 := C.w K152_6.eq_1
def K152_7:C:=.seq (.pl <| .e 8 5 <|
 .m 8 4 <|
 .m 9 7 <|
 .x 10 (.ia 1 (.v 8) (.v 9)) <|
 .l 11 10 <|
 .x 12 (.un .not (.v 11)) .done) K152_6
@[simp] def W152_7 := C.w K152_7.eq_1
def K152_8:C:=.seq (.pl <| .e 8 0 <|
 .x 2 (.mv (.c (.bool true))) .done) (.ret)
@[simp] def W152_8 := C.w K152_8.eq_1
def K152_9:C:=.cond 8 (.v 10) K152_8 (.skip)
@[simp] def W152_9 := C.w K152_9.eq_1
def K152_10:C:=.seq (.seq (.pl <| .e 8 3 <|
 .m 8 7 <|
 .m 9 1 <|
 .x 10 (.bin .eql (.v 8) (.v 9)) .done) K152_9) K152_7
@[simp] def W152_10 := C.w K152_10.eq_1
def K152_11:C:=.seq (.block 3 (.seq (.pl <| .e 8 4 <|
 .m 8 5 <|
 .m 9 6 <|
 .x 10 (.ia 1 (.v 8) (.v 9)) <|
 .l 11 10 <|
 .m 7 11 .done) K152_10)) K152_2
@[simp] def W152_11 := C.w K152_11.eq_1
def K152_12:C:=.cond 8 (.v 11) (.skip) (.exit 2)
@[simp] def W152_12 := C.w K152_12.eq_1
def K152_13:C:=.seq (.seq (.pl <| .e 8 4 <|
 .m 8 6 <|
 .m 9 5 <|
 .x 10 (.lenV (.v 9)) <|
 .x 11 (.bin .lss (.v 8) (.v 10)) .done) K152_12) K152_11
@[simp] def W152_13 := C.w K152_13.eq_1
def K152_14:C:=.block 2 (.loop 8 [2,3,7] K152_13)
@[simp] def W152_14 := C.w K152_14.eq_1
def K152_15:C:=.seq (.seq (.pl <| .e 8 0 <|
 .x 6 (.mv (.c (.int .i64 0))) .done) K152_14) K152_1
@[simp] def W152_15 := C.w K152_15.eq_1
def K152_16:Pl:=.m 5 13 .done
@[simp] def W152_16 := Pl.w K152_16.eq_1
def K152_17:C:=.seq (.pl <| .e 8 6 <|
 .o (.psl 8 [] []) <|
 .m 9 0 <|
 .m 10 1 <|
 .x 11 (.ia 1 (.v 9) (.v 10)) <|
 .l 12 11 <|
 .c 13 (.app 8 1 [.int .i64 0] (.p 0 8) (.o (.v 12))) K152_16) K152_15
@[simp] def W152_17 := C.w K152_17.eq_1
def K152_18:Pl:=.m 4 10 .done
@[simp] def W152_18 := Pl.w K152_18.eq_1
def K152_19:C:=.seq (.pl <| .e 8 3 <|
 .m 8 0 <|
 .x 9 (.lenV (.v 8)) <|
 .c 10 (.mks 1 1 [.bool false] (.v 9) (.v 9)) K152_18) K152_17
@[simp] def W152_19 := C.w K152_19.eq_1
def K152_20:C:=.pl <| .e 8 2 <|
 .m 8 3 <|
 .x 9 (.bin .add (.v 8) (.c (.int .i64 1))) <|
 .m 3 9 .done
@[simp] def W152_20 := C.w K152_20.eq_1
def K152_21:C:=.seq (.pl <| .e 8 0 <|
 .x 2 (.mv (.c (.bool true))) .done) (.ret)
@[simp] def W152_21 := C.w K152_21.eq_1
def K152_22:C:=.cond 8 (.v 16) K152_21 (.skip)
@[simp] def W152_22 := C.w K152_22.eq_1
def K152_23:C:=.seq (.block 1 (.seq (.pl <| .e 8 9 <|
 .m 8 0 <|
 .m 9 1 <|
 .x 10 (.ia 1 (.v 8) (.v 9)) <|
 .l 11 10 <|
 .m 12 3 <|
 .x 13 (.ia 1 (.v 11) (.v 12)) <|
 .l 14 13 <|
 .m 15 1 <|
 .x 16 (.bin .eql (.v 14) (.v 15)) .done) K152_22)) K152_20
@[simp] def W152_23 := C.w K152_23.eq_1
def K152_24:C:=.cond 8 (.v 14) (.skip) (.exit 0)
@[simp] def W152_24 := C.w K152_24.eq_1
def K152_25:C:=.seq (.seq (.pl <| .e 8 7 <|
 .m 8 3 <|
 .m 9 0 <|
 .m 10 1 <|
 .x 11 (.ia 1 (.v 9) (.v 10)) <|
 .l 12 11 <|
 .x 13 (.lenV (.v 12)) <|
 .x 14 (.bin .lss (.v 8) (.v 13)) .done) K152_24) K152_23
@[simp] def W152_25 := C.w K152_25.eq_1
def K152_26:C:=.block 0 (.loop 8 [2,4,5,6,7] K152_25)
@[simp] def W152_26 := C.w K152_26.eq_1
def K152_27:C:=.seq (.seq (.pl <| .e 8 0 <|
 .x 3 (.mv (.c (.int .i64 0))) .done) K152_26) K152_19
@[simp] def W152_27 := C.w K152_27.eq_1
def B_spec_l7Loop:C:=.seq (.pl <| .e 8 0 <|
 .x 2 (.mv (.c (.bool false))) .done) K152_27
@[simp] def WB_spec_l7Loop := C.w B_spec_l7Loop.eq_1
def R_spec_l7Loop:FIR:=⟨B_spec_l7Loop,8,[(2,none)]⟩
theorem IR_spec_l7Loop:cfun Tryz.prog H_spec_l7Loop Tryz.f152=some R_spec_l7Loop:=by kernel_rfl
theorem EN_spec_l7Loop:ENT Tryz.prog B_spec_l7Loop [(2,none)] 2 8 fn_spec_l7Loop:=fun hargs hw=>enter Tryz.func152 rfl IR_spec_l7Loop hargs hw
def H_spec_l7Next:Hint:=⟨[(0,false),(1,true),(2,false),(3,false),(4,false),(5,true)],[[0,2,5]]⟩
def K150_1:C:=.seq (.pl <| .e 6 1 <|
 .m 6 3 <|
 .m 2 6 .done) (.ret)
@[simp] def W150_1 := C.w K150_1.eq_1
def K150_2:C:=.pl <| .e 6 2 <|
 .m 6 4 <|
 .x 7 (.bin .add (.v 6) (.c (.int .i64 1))) <|
 .m 4 7 .done
@[simp] def W150_2 := C.w K150_2.eq_1
def K150_3:Pl:=.x 18 (.ia 1 (.v 6) (.v 8)) <|
 .o (.ex none (.store 1 (.v 18) (.v 17))) .done
@[simp] def W150_3 := Pl.w K150_3.eq_1
def K150_4:C:=.pl <| .e 6 13 <|
 .m 6 3 <|
 .a 7 5 <|
 .g 8 7 5 0 <|
 .m 9 3 <|
 .a 10 5 <|
 .g 11 10 5 0 <|
 .x 12 (.ia 1 (.v 9) (.v 11)) <|
 .l 13 12 <|
 .a 14 5 <|
 .g 15 14 5 3 <|
 .o (.psl 16 [.int .i64 0] [(0,1,.v 15)]) <|
 .c 17 (.app 8 1 [.int .i64 0] (.o (.v 13)) (.p 1 16)) K150_3
@[simp] def W150_4 := C.w K150_4.eq_1
def K150_5:C:=.cond 6 (.v 14) K150_4 (.skip)
@[simp] def W150_5 := C.w K150_5.eq_1
def K150_6:Pl:=.x 14 (.un .not (.v 13)) .done
@[simp] def W150_6 := Pl.w K150_6.eq_1
def K150_7:C:=.seq (.pl <| .e 6 9 <|
 .m 6 3 <|
 .a 7 5 <|
 .g 8 7 5 0 <|
 .x 9 (.ia 1 (.v 6) (.v 8)) <|
 .l 10 9 <|
 .a 11 5 <|
 .g 12 11 5 3 <|
 .c 13 (.call fn_spec_l4In [.v 10,.v 12]) K150_6) K150_5
@[simp] def W150_7 := C.w K150_7.eq_1
def K150_8:C:=.seq (.block 1 (.seq (.pl <| .e 6 5 <|
 .a 6 1 <|
 .g 7 6 1 2 <|
 .m 8 4 <|
 .x 9 (.ia 4 (.v 7) (.v 8)) <|
 .o (.ld (some 10) (.v 9) (some 4)) <|
 .o (.pnew 5 (.c (.agg #[.int .i64 0,.int .i64 0,.int .i64 0,.int .i64 0])) []) <|
 .o (.pset none 5 0 4 (.v 10)) .done) K150_7)) K150_2
@[simp] def W150_8 := C.w K150_8.eq_1
def K150_9:C:=.cond 6 (.v 10) (.skip) (.exit 0)
@[simp] def W150_9 := C.w K150_9.eq_1
def K150_10:C:=.seq (.seq (.pl <| .e 6 5 <|
 .m 6 4 <|
 .a 7 1 <|
 .g 8 7 1 2 <|
 .x 9 (.lenV (.v 8)) <|
 .x 10 (.bin .lss (.v 6) (.v 9)) .done) K150_9) K150_8
@[simp] def W150_10 := C.w K150_10.eq_1
def K150_11:C:=.block 0 (.loop 6 [0,2,5] K150_10)
@[simp] def W150_11 := C.w K150_11.eq_1
def K150_12:C:=.seq (.seq (.pl <| .e 6 0 <|
 .x 4 (.mv (.c (.int .i64 0))) .done) K150_11) K150_1
@[simp] def W150_12 := C.w K150_12.eq_1
def K150_13:Pl:=.m 3 9 .done
@[simp] def W150_13 := Pl.w K150_13.eq_1
def K150_14:C:=.seq (.pl <| .e 6 4 <|
 .a 6 1 <|
 .g 7 6 1 1 <|
 .x 8 (.lenV (.v 7)) <|
 .c 9 (.mks 24 1 [.slice none 0 0] (.v 8) (.v 8)) K150_13) K150_12
@[simp] def W150_14 := C.w K150_14.eq_1
def B_spec_l7Next:C:=.seq (.pl <| .e 6 0 <|
 .o (.pnew 1 (.v 0) []) <|
 .x 2 (.mv (.c (.slice none 0 0))) .done) K150_14
@[simp] def WB_spec_l7Next := C.w B_spec_l7Next.eq_1
def R_spec_l7Next:FIR:=⟨B_spec_l7Next,6,[(2,none)]⟩
theorem IR_spec_l7Next:cfun Tryz.prog H_spec_l7Next Tryz.f150=some R_spec_l7Next:=by kernel_rfl
theorem EN_spec_l7Next:ENT Tryz.prog B_spec_l7Next [(2,none)] 1 6 fn_spec_l7Next:=fun hargs hw=>enter Tryz.func150 rfl IR_spec_l7Next hargs hw
def H_spec_l7On:Hint:=⟨[(0,false),(1,false),(2,true),(4,false)],[]⟩
def K154_1:C:=.seq (.pl <| .e 4 7 <|
 .m 4 1 <|
 .a 5 2 <|
 .g 6 5 2 1 <|
 .x 7 (.bin .and (.v 4) (.v 6)) <|
 .a 8 2 <|
 .g 9 8 2 2 <|
 .x 10 (.bin .eql (.v 7) (.v 9)) <|
 .m 3 10 .done) (.ret)
@[simp] def W154_1 := C.w K154_1.eq_1
def B_spec_l7On:C:=.seq (.pl <| .e 4 0 <|
 .o (.pnew 2 (.v 0) []) <|
 .x 3 (.mv (.c (.bool false))) .done) K154_1
@[simp] def WB_spec_l7On := C.w B_spec_l7On.eq_1
def R_spec_l7On:FIR:=⟨B_spec_l7On,4,[(3,none)]⟩
theorem IR_spec_l7On:cfun Tryz.prog H_spec_l7On Tryz.f154=some R_spec_l7On:=by kernel_rfl
theorem EN_spec_l7On:ENT Tryz.prog B_spec_l7On [(3,none)] 2 4 fn_spec_l7On:=fun hargs hw=>enter Tryz.func154 rfl IR_spec_l7On hargs hw
def H_spec_l7Reach:Hint:=⟨[(0,false),(1,false),(4,false),(5,false),(6,false),(7,false),(8,false),(9,false),(10,false)],[[2,6,7,8],[1,2,5,7,8],[1,2,5,8]]⟩
def K151_1:C:=.seq (.pl <| .e 9 1 <|
 .m 9 4 <|
 .m 2 9 .done) (.ret)
@[simp] def W151_1 := C.w K151_1.eq_1
def K151_2:C:=.pl <| .e 9 2 <|
 .m 9 6 <|
 .x 10 (.bin .add (.v 9) (.c (.int .i64 1))) <|
 .m 6 10 .done
@[simp] def W151_2 := C.w K151_2.eq_1
def K151_3:C:=.pl <| .e 9 2 <|
 .m 9 7 <|
 .x 10 (.bin .add (.v 9) (.c (.int .i64 1))) <|
 .m 7 10 .done
@[simp] def W151_3 := C.w K151_3.eq_1
def K151_4:Pl:=.m 4 12 .done
@[simp] def W151_4 := Pl.w K151_4.eq_1
def K151_5:C:=.pl <| .e 9 4 <|
 .m 9 4 <|
 .m 10 8 <|
 .o (.psl 11 [.int .i64 0] [(0,1,.v 10)]) <|
 .c 12 (.app 8 1 [.int .i64 0] (.o (.v 9)) (.p 1 11)) K151_4
@[simp] def W151_5 := C.w K151_5.eq_1
def K151_6:C:=.seq (.pl <| .e 9 3 <|
 .m 9 3 <|
 .m 10 8 <|
 .x 11 (.ia 1 (.v 9) (.v 10)) <|
 .o (.ex none (.store 1 (.v 11) (.c (.bool true)))) .done) K151_5
@[simp] def W151_6 := C.w K151_6.eq_1
def K151_7:C:=.cond 9 (.v 13) K151_6 (.skip)
@[simp] def W151_7 := C.w K151_7.eq_1
def K151_8:C:=.seq (.pl <| .e 9 5 <|
 .m 9 3 <|
 .m 10 8 <|
 .x 11 (.ia 1 (.v 9) (.v 10)) <|
 .l 12 11 <|
 .x 13 (.un .not (.v 12)) .done) K151_7
@[simp] def W151_8 := C.w K151_8.eq_1
def K151_9:C:=.seq (.block 5 (.seq (.pl <| .e 9 10 <|
 .m 9 0 <|
 .m 10 4 <|
 .m 11 6 <|
 .x 12 (.ia 1 (.v 10) (.v 11)) <|
 .l 13 12 <|
 .x 14 (.ia 1 (.v 9) (.v 13)) <|
 .l 15 14 <|
 .m 16 7 <|
 .x 17 (.ia 1 (.v 15) (.v 16)) <|
 .l 18 17 <|
 .m 8 18 .done) K151_8)) K151_3
@[simp] def W151_9 := C.w K151_9.eq_1
def K151_10:C:=.cond 9 (.v 18) (.skip) (.exit 4)
@[simp] def W151_10 := C.w K151_10.eq_1
def K151_11:C:=.seq (.seq (.pl <| .e 9 10 <|
 .m 9 7 <|
 .m 10 0 <|
 .m 11 4 <|
 .m 12 6 <|
 .x 13 (.ia 1 (.v 11) (.v 12)) <|
 .l 14 13 <|
 .x 15 (.ia 1 (.v 10) (.v 14)) <|
 .l 16 15 <|
 .x 17 (.lenV (.v 16)) <|
 .x 18 (.bin .lss (.v 9) (.v 17)) .done) K151_10) K151_9
@[simp] def W151_11 := C.w K151_11.eq_1
def K151_12:C:=.block 4 (.loop 9 [1,2,5,8] K151_11)
@[simp] def W151_12 := C.w K151_12.eq_1
def K151_13:C:=.seq (.block 3 (.seq (.pl <| .e 9 0 <|
 .x 7 (.mv (.c (.int .i64 0))) .done) K151_12)) K151_2
@[simp] def W151_13 := C.w K151_13.eq_1
def K151_14:C:=.cond 9 (.v 12) (.skip) (.exit 2)
@[simp] def W151_14 := C.w K151_14.eq_1
def K151_15:C:=.seq (.seq (.pl <| .e 9 4 <|
 .m 9 6 <|
 .m 10 4 <|
 .x 11 (.lenV (.v 10)) <|
 .x 12 (.bin .lss (.v 9) (.v 11)) .done) K151_14) K151_13
@[simp] def W151_15 := C.w K151_15.eq_1
def K151_16:C:=.block 2 (.loop 9 [1,2,5,7,8] K151_15)
@[simp] def W151_16 := C.w K151_16.eq_1
def K151_17:C:=.seq (.seq (.pl <| .e 9 0 <|
 .x 6 (.mv (.c (.int .i64 0))) .done) K151_16) K151_1
@[simp] def W151_17 := C.w K151_17.eq_1
def K151_18:C:=.pl <| .e 9 2 <|
 .m 9 5 <|
 .x 10 (.bin .add (.v 9) (.c (.int .i64 1))) <|
 .m 5 10 .done
@[simp] def W151_18 := C.w K151_18.eq_1
def K151_19:Pl:=.m 4 15 .done
@[simp] def W151_19 := Pl.w K151_19.eq_1
def K151_20:C:=.pl <| .e 9 7 <|
 .m 9 4 <|
 .m 10 1 <|
 .m 11 5 <|
 .x 12 (.ia 1 (.v 10) (.v 11)) <|
 .l 13 12 <|
 .o (.psl 14 [.int .i64 0] [(0,1,.v 13)]) <|
 .c 15 (.app 8 1 [.int .i64 0] (.o (.v 9)) (.p 1 14)) K151_19
@[simp] def W151_20 := C.w K151_20.eq_1
def K151_21:C:=.seq (.pl <| .e 9 6 <|
 .m 9 3 <|
 .m 10 1 <|
 .m 11 5 <|
 .x 12 (.ia 1 (.v 10) (.v 11)) <|
 .l 13 12 <|
 .x 14 (.ia 1 (.v 9) (.v 13)) <|
 .o (.ex none (.store 1 (.v 14) (.c (.bool true)))) .done) K151_20
@[simp] def W151_21 := C.w K151_21.eq_1
def K151_22:C:=.cond 9 (.v 16) K151_21 (.skip)
@[simp] def W151_22 := C.w K151_22.eq_1
def K151_23:C:=.seq (.block 1 (.seq (.pl <| .e 9 8 <|
 .m 9 3 <|
 .m 10 1 <|
 .m 11 5 <|
 .x 12 (.ia 1 (.v 10) (.v 11)) <|
 .l 13 12 <|
 .x 14 (.ia 1 (.v 9) (.v 13)) <|
 .l 15 14 <|
 .x 16 (.un .not (.v 15)) .done) K151_22)) K151_18
@[simp] def W151_23 := C.w K151_23.eq_1
def K151_24:C:=.cond 9 (.v 12) (.skip) (.exit 0)
@[simp] def W151_24 := C.w K151_24.eq_1
def K151_25:C:=.seq (.seq (.pl <| .e 9 4 <|
 .m 9 5 <|
 .m 10 1 <|
 .x 11 (.lenV (.v 10)) <|
 .x 12 (.bin .lss (.v 9) (.v 11)) .done) K151_24) K151_23
@[simp] def W151_25 := C.w K151_25.eq_1
def K151_26:C:=.block 0 (.loop 9 [2,6,7,8] K151_25)
@[simp] def W151_26 := C.w K151_26.eq_1
def K151_27:C:=.seq (.seq (.pl <| .e 9 0 <|
 .x 5 (.mv (.c (.int .i64 0))) .done) K151_26) K151_17
@[simp] def W151_27 := C.w K151_27.eq_1
def K151_28:Pl:=.m 4 9 .done
@[simp] def W151_28 := Pl.w K151_28.eq_1
def K151_29:C:=.seq (.pl <| .e 9 1 <|
 .c 9 (.bls 1 0 [.int .i64 0] []) K151_28) K151_27
@[simp] def W151_29 := C.w K151_29.eq_1
def K151_30:Pl:=.m 3 11 .done
@[simp] def W151_30 := Pl.w K151_30.eq_1
def K151_31:C:=.seq (.pl <| .e 9 3 <|
 .m 9 0 <|
 .x 10 (.lenV (.v 9)) <|
 .c 11 (.mks 1 1 [.bool false] (.v 10) (.v 10)) K151_30) K151_29
@[simp] def W151_31 := C.w K151_31.eq_1
def B_spec_l7Reach:C:=.seq (.pl <| .e 9 0 <|
 .x 2 (.mv (.c (.slice none 0 0))) .done) K151_31
@[simp] def WB_spec_l7Reach := C.w B_spec_l7Reach.eq_1
def R_spec_l7Reach:FIR:=⟨B_spec_l7Reach,9,[(2,none)]⟩
theorem IR_spec_l7Reach:cfun Tryz.prog H_spec_l7Reach Tryz.f151=some R_spec_l7Reach:=by kernel_rfl
theorem EN_spec_l7Reach:ENT Tryz.prog B_spec_l7Reach [(2,none)] 2 9 fn_spec_l7Reach:=fun hargs hw=>enter Tryz.func151 rfl IR_spec_l7Reach hargs hw
end Go.Proofs.YtbanccfdojgocaaGreat

namespace Go.Proofs.YtbanccfdojgocaaGreat
open Go
def H_impl_Formula_negation:Hint:=⟨[(0,false),(1,true),(2,true)],[]⟩
def K83_1:Pl:=.o (.pset none 2 0 3 (.v 6)) .done
@[simp] def W83_1 := Pl.w K83_1.eq_1
def K83_2:Pl:=.c 6 (.call fn_impl_formula [.c (.int .i64 3),.v 5]) K83_1
@[simp] def W83_2 := Pl.w K83_2.eq_1
def K83_3:Pl:=.c 5 (.bls 3 1 [.int .i64 0,.int .i64 0,.slice none 0 0] [(0,3,.v 4)]) K83_2
@[simp] def W83_3 := Pl.w K83_3.eq_1
def K83_4:C:=.seq (.pl <| .e 3 4 <|
 .o (.pget (some 3) none 1 0 (some 3)) <|
 .c 4 (.call fn_impl_Formula_copyOf [.v 3]) K83_3) (.ret)
@[simp] def W83_4 := C.w K83_4.eq_1
def K83_5:Pl:=.o (.pset none 2 0 3 (.v 7)) .done
@[simp] def W83_5 := Pl.w K83_5.eq_1
def K83_6:C:=.seq (.pl <| .e 3 5 <|
 .a 3 1 <|
 .g 4 3 1 2 <|
 .x 5 (.ia 3 (.v 4) (.c (.int .i64 0))) <|
 .o (.ld (some 6) (.v 5) (some 3)) <|
 .c 7 (.call fn_impl_Formula_copyOf [.v 6]) K83_5) (.ret)
@[simp] def W83_6 := C.w K83_6.eq_1
def K83_7:C:=.cond 3 (.v 5) K83_6 (.skip)
@[simp] def W83_7 := C.w K83_7.eq_1
def K83_8:C:=.seq (.seq (.pl <| .e 3 3 <|
 .a 3 1 <|
 .g 4 3 1 0 <|
 .x 5 (.bin .eql (.v 4) (.c (.int .i64 3))) .done) K83_7) K83_4
@[simp] def W83_8 := C.w K83_8.eq_1
def B_impl_Formula_negation:C:=.seq (.pl <| .e 3 0 <|
 .o (.pnew 1 (.v 0) []) <|
 .o (.pnew 2 (.c (.agg #[.int .i64 0,.int .i64 0,.slice none 0 0])) []) .done) K83_8
@[simp] def WB_impl_Formula_negation := C.w B_impl_Formula_negation.eq_1
def R_impl_Formula_negation:FIR:=⟨B_impl_Formula_negation,3,[(2,some (some 3))]⟩
theorem IR_impl_Formula_negation:cfun Tryz.prog H_impl_Formula_negation Tryz.f83=some R_impl_Formula_negation:=by kernel_rfl
theorem EN_impl_Formula_negation:ENT Tryz.prog B_impl_Formula_negation [(2,some (some 3))] 1 3 fn_impl_Formula_negation:=fun hargs hw=>enter Tryz.func83 rfl IR_impl_Formula_negation hargs hw
def H_impl_NegateFormula:Hint:=⟨[(0,false),(1,true),(2,true),(3,false)],[]⟩
def K26_1:Pl:=.o (.pset none 2 0 3 (.v 5)) <|
 .x 3 (.mv (.c (.bool true))) .done
@[simp] def W26_1 := Pl.w K26_1.eq_1
def K26_2:C:=.seq (.pl <| .e 4 2 <|
 .o (.pget (some 4) none 1 0 (some 3)) <|
 .c 5 (.call fn_impl_Formula_negation [.v 4]) K26_1) (.ret)
@[simp] def W26_2 := C.w K26_2.eq_1
def K26_3:C:=.seq (.pl <| .e 4 1 <|
 .x 4 (.build [.int .i64 0,.int .i64 0,.slice none 0 0] []) <|
 .o (.pset none 2 0 3 (.v 4)) <|
 .x 3 (.mv (.c (.bool false))) .done) (.ret)
@[simp] def W26_3 := C.w K26_3.eq_1
def K26_4:C:=.cond 4 (.v 12) K26_3 (.skip)
@[simp] def W26_4 := C.w K26_4.eq_1
def K26_5:Pl:=.n 7 (.px (some 11) (.un .not (.v 10))) <|
 .x 12 (.pick (.v 7) (.c (.bool true)) (.v 11)) .done
@[simp] def W26_5 := Pl.w K26_5.eq_1
def K26_6:Pl:=.st (.act (some (.v 7,false)) (.ex (some 10) (.call fn_impl_FormulaValid [.v 9]))) K26_5
@[simp] def W26_6 := Pl.w K26_6.eq_1
def K26_7:Pl:=.x 6 (.un .not (.v 5)) <|
 .m 7 6 <|
 .n 7 (.pget (some 8) none 1 0 (some 3)) <|
 .st (.act (some (.v 7,false)) (.ex (some 9) (.call fn_impl_Formula_negation [.v 8]))) K26_6
@[simp] def W26_7 := Pl.w K26_7.eq_1
def K26_8:C:=.seq (.seq (.pl <| .e 4 9 <|
 .o (.pget (some 4) none 1 0 (some 3)) <|
 .c 5 (.call fn_impl_FormulaValid [.v 4]) K26_7) K26_4) K26_2
@[simp] def W26_8 := C.w K26_8.eq_1
def B_impl_NegateFormula:C:=.seq (.pl <| .e 4 0 <|
 .o (.pnew 1 (.v 0) []) <|
 .o (.pnew 2 (.c (.agg #[.int .i64 0,.int .i64 0,.slice none 0 0])) []) <|
 .x 3 (.mv (.c (.bool false))) .done) K26_8
@[simp] def WB_impl_NegateFormula := C.w B_impl_NegateFormula.eq_1
def R_impl_NegateFormula:FIR:=⟨B_impl_NegateFormula,4,[(2,some (some 3)),(3,none)]⟩
theorem IR_impl_NegateFormula:cfun Tryz.prog H_impl_NegateFormula Tryz.f26=some R_impl_NegateFormula:=by kernel_rfl
theorem EN_impl_NegateFormula:ENT Tryz.prog B_impl_NegateFormula [(2,some (some 3)),(3,none)] 1 4 fn_impl_NegateFormula:=fun hargs hw=>enter Tryz.func26 rfl IR_impl_NegateFormula hargs hw
end Go.Proofs.YtbanccfdojgocaaGreat

namespace Go.Proofs.YtbanccfdojgocaaGreat
open Go
end Go.Proofs.YtbanccfdojgocaaGreat

namespace Go.Proofs.YtbanccfdojgocaaGreat
open Go
end Go.Proofs.YtbanccfdojgocaaGreat

namespace Go.Proofs.YtbanccfdojgocaaGreat
open Go
end Go.Proofs.YtbanccfdojgocaaGreat

namespace Go.Proofs.YtbanccfdojgocaaGreat
open Go
end Go.Proofs.YtbanccfdojgocaaGreat

namespace Go.Proofs.YtbanccfdojgocaaGreat
open Go
end Go.Proofs.YtbanccfdojgocaaGreat
