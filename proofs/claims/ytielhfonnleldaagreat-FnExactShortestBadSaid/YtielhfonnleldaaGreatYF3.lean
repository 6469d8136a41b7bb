/-
  Texts of this proof, one behind the other.
-/
import Derived.Test.YtielhfonnleldaaGreatRows
import Derived.WalkKit
import Derived.ProofKit
import Derived.OpenShut
import Derived.Carry
import Derived.Deep.Slices
import Derived.SizedLaws
import Derived.Test.YtielhfonnleldaaGreatYF2
set_option linter.all false
set_option linter.unusedVariables false
set_option linter.unusedSimpArgs false
set_option linter.defProp false
set_option maxRecDepth 1000000
namespace Go.Proofs.YtielhfonnleldaaGreat
open Go
abbrev fn_main_main:Nat:=0
abbrev fn_gosem_cut:Nat:=1
abbrev fn_gosem_cut_init:Nat:=2
abbrev fn_laws_FnTranslateNegation:Nat:=3
abbrev fn_laws_FnExactShortestBad:Nat:=4
abbrev fn_laws_FnShortestBad:Nat:=5
abbrev fn_laws_FnShortestBadLeast:Nat:=6
abbrev fn_spec_DrawTranslateFormula:Nat:=7
abbrev fn_spec_DrawAccepts:Nat:=8
abbrev fn_impl_NegateFormula:Nat:=9
abbrev fn_impl_TranslateFormula:Nat:=10
abbrev fn_spec_TranslateFormula:Nat:=11
abbrev fn_impl_AutomatonSame:Nat:=12
abbrev fn_impl_Accepts:Nat:=13
abbrev fn_impl_IntersectAutomata:Nat:=14
abbrev fn_impl_FindWord:Nat:=15
abbrev fn_laws_szFormula:Nat:=16
abbrev fn_spec_ShortestBad:Nat:=17
abbrev fn_laws_toFormula:Nat:=18
abbrev fn_impl_ShortestBad:Nat:=19
abbrev fn_laws_eqIntS:Nat:=20
abbrev fn_laws_eqFormula:Nat:=21
abbrev fn_laws_markFormula:Nat:=22
abbrev fn_laws_markIntS:Nat:=23
abbrev fn_laws_heldIntS:Nat:=24
abbrev fn_spec_DrawShortestBad:Nat:=25
abbrev fn_laws_wpInts:Nat:=26
abbrev fn_impl_PrefixStates:Nat:=27
abbrev fn_spec_DrawMonitorRun:Nat:=28
abbrev fn_spec_DrawFormulaValid:Nat:=29
abbrev fn_spec_l16Open:Nat:=30
abbrev fn_spec_l7Mutate:Nat:=31
abbrev fn_spec_l7Automaton:Nat:=32
abbrev fn_spec_l6Mutate:Nat:=33
abbrev fn_spec_l6Lasso:Nat:=34
abbrev fn_impl_FormulaValid:Nat:=35
abbrev fn_impl_Formula_negation:Nat:=36
abbrev fn_impl_BasicFormulas:Nat:=37
abbrev fn_impl_Formula_normalForm:Nat:=38
abbrev fn_impl_translator_holds:Nat:=39
abbrev fn_impl_TranslateFormula_1:Nat:=40
abbrev fn_impl_translator_fulfils:Nat:=41
abbrev fn_impl_explore_impl_phased:Nat:=42
abbrev fn_impl_translator_moves:Nat:=43
abbrev fn_spec_BasicFormulas:Nat:=44
abbrev fn_spec_NormalForm:Nat:=45
abbrev fn_spec_l7Untils:Nat:=46
abbrev fn_spec_l7Value:Nat:=47
abbrev fn_spec_l7Phase:Nat:=48
abbrev fn_spec_l7Letter:Nat:=49
abbrev fn_spec_l7Follows:Nat:=50
abbrev fn_spec_l7Pair:Nat:=51
abbrev fn_slices_Equal_S_int_int:Nat:=52
abbrev fn_slices_Equal_S_bool_bool:Nat:=53
abbrev fn_slices_Equal_S_impl_Transition_impl_Transition:Nat:=54
abbrev fn_impl_AutomatonValid:Nat:=55
abbrev fn_impl_LassoValid:Nat:=56
abbrev fn_impl_Automaton_accepts:Nat:=57
abbrev fn_impl_IntersectAutomata_1:Nat:=58
abbrev fn_impl_explore_impl_triple:Nat:=59
abbrev fn_impl_IntersectAutomata_2:Nat:=60
abbrev fn_impl_lasso:Nat:=61
abbrev fn_impl_Automaton_next:Nat:=62
abbrev fn_impl_FindWord_1:Nat:=63
abbrev fn_impl_Automaton_values:Nat:=64
abbrev fn_impl_clone_int:Nat:=65
abbrev fn_laws_szFormulaS:Nat:=66
abbrev fn_spec_LiveStates:Nat:=67
abbrev fn_spec_l12Only:Nat:=68
abbrev fn_spec_l12Step:Nat:=69
abbrev fn_laws_toFormulaS:Nat:=70
abbrev fn_impl_Automaton_live:Nat:=71
abbrev fn_impl_Automaton_begin:Nat:=72
abbrev fn_slices_Contains_S_bool_bool:Nat:=73
abbrev fn_impl_Automaton_after:Nat:=74
abbrev fn_slices_ContainsFunc_S_S_bool_S_bool:Nat:=75
abbrev fn_impl_ShortestBad_1:Nat:=76
abbrev fn_laws_eqFormulaS:Nat:=77
abbrev fn_laws_markFormulaS:Nat:=78
abbrev fn_spec_l5Mutate:Nat:=79
abbrev fn_spec_l5Formula:Nat:=80
abbrev fn_spec_l16Rd_num:Nat:=81
abbrev fn_impl_wordOk:Nat:=82
abbrev fn_impl_Automaton_prefix:Nat:=83
abbrev fn_spec_DrawMonitorFormula:Nat:=84
abbrev fn_spec_l16Rd_pick:Nat:=85
abbrev fn_spec_l6Word:Nat:=86
abbrev fn_impl_FormulaNodes:Nat:=87
abbrev fn_impl_Formula_copyOf:Nat:=88
abbrev fn_impl_formula:Nat:=89
abbrev fn_impl_NormalForm:Nat:=90
abbrev fn_impl_basics:Nat:=91
abbrev fn_impl_Formula_normal:Nat:=92
abbrev fn_impl_formulaAt:Nat:=93
abbrev fn_impl_explore_impl_phased_1:Nat:=94
abbrev fn_impl_Automaton_copyOf:Nat:=95
abbrev fn_impl_translator_follows:Nat:=96
abbrev fn_spec_l5Subs:Nat:=97
abbrev fn_spec_l7Basic:Nat:=98
abbrev fn_spec_FormulaValid:Nat:=99
abbrev fn_spec_l5Push:Nat:=100
abbrev fn_spec_l6Has:Nat:=101
abbrev fn_spec_l5Find:Nat:=102
abbrev fn_spec_l7Fulfils:Nat:=103
abbrev fn_spec_l2Ints:Nat:=104
abbrev fn_impl_in:Nat:=105
abbrev fn_slices_ContainsFunc_S_impl_Transition_impl_Transition:Nat:=106
abbrev fn_impl_AutomatonValid_1:Nat:=107
abbrev fn_impl_letters:Nat:=108
abbrev fn_impl_Lasso_all:Nat:=109
abbrev fn_impl_Transition_takes:Nat:=110
abbrev fn_impl_Lasso_next:Nat:=111
abbrev fn_impl_cyclic:Nat:=112
abbrev fn_impl_reachable:Nat:=113
abbrev fn_impl_explore_impl_triple_1:Nat:=114
abbrev fn_impl_order:Nat:=115
abbrev fn_impl_shortest:Nat:=116
abbrev fn_impl_lasso_1:Nat:=117
abbrev fn_impl_around:Nat:=118
abbrev fn_slices_IndexFunc_S_impl_Transition_impl_Transition:Nat:=119
abbrev fn_impl_Automaton_values_1:Nat:=120
abbrev fn_slices_Clip_S_int_int:Nat:=121
abbrev fn_slices_Clone_S_int_int:Nat:=122
abbrev fn_spec_AutomatonValid:Nat:=123
abbrev fn_spec_l7Next:Nat:=124
abbrev fn_spec_l7Reach:Nat:=125
abbrev fn_spec_l7Loop:Nat:=126
abbrev fn_spec_l4In:Nat:=127
abbrev fn_spec_l7On:Nat:=128
abbrev fn_spec_l10Sorted:Nat:=129
abbrev fn_slices_Index_S_bool_bool:Nat:=130
abbrev fn_slices_IndexFunc_S_S_bool_S_bool:Nat:=131
abbrev fn_spec_l5Copy:Nat:=132
abbrev fn_spec_l5True:Nat:=133
abbrev fn_spec_l5Random:Nat:=134
abbrev fn_impl_members:Nat:=135
abbrev fn_spec_l12Letters:Nat:=136
abbrev fn_impl_Formula_walk:Nat:=137
abbrev fn_impl_clone_impl_Formula:Nat:=138
abbrev fn_impl_Formula_subformulas:Nat:=139
abbrev fn_slices_Clip_S_impl_Formula_impl_Formula:Nat:=140
abbrev fn_impl_Formula_normal_1:Nat:=141
abbrev fn_impl_Formula_normal_2:Nat:=142
abbrev fn_slices_IndexFunc_S_impl_Formula_impl_Formula:Nat:=143
abbrev fn_impl_formulaAt_1:Nat:=144
abbrev fn_impl_FormulaSame:Nat:=145
abbrev fn_impl_clone_bool:Nat:=146
abbrev fn_impl_clone_impl_Transition:Nat:=147
abbrev fn_spec_l5Shape:Nat:=148
abbrev fn_spec_l5Count:Nat:=149
abbrev fn_spec_l5Not:Nat:=150
abbrev fn_spec_l5Dual:Nat:=151
abbrev fn_spec_FormulaSame:Nat:=152
abbrev fn_slices_ContainsFunc_S_int_int:Nat:=153
abbrev fn_impl_letters_1:Nat:=154
abbrev fn_slices_Concat_S_int_int:Nat:=155
abbrev fn_impl_components:Nat:=156
abbrev fn_slices_Contains_S_int_int:Nat:=157
abbrev fn_impl_order_1:Nat:=158
abbrev fn_slices_Reverse_S_int_int:Nat:=159
abbrev fn_impl_around_1:Nat:=160
abbrev fn_spec_l7Edge:Nat:=161
abbrev fn_spec_l5Arity:Nat:=162
abbrev fn_impl_operands:Nat:=163
abbrev fn_slices_ContainsFunc_S_impl_Formula_impl_Formula:Nat:=164
abbrev fn_impl_Formula_walk_1:Nat:=165
abbrev fn_slices_Clone_S_impl_Formula_impl_Formula:Nat:=166
abbrev fn_impl_Formula_subformulas_1:Nat:=167
abbrev fn_slices_EqualFunc_S_impl_Formula_S_impl_Formula_impl_Formula_impl_Formula:Nat:=168
abbrev fn_slices_Clip_S_bool_bool:Nat:=169
abbrev fn_slices_Clone_S_bool_bool:Nat:=170
abbrev fn_slices_Clip_S_impl_Transition_impl_Transition:Nat:=171
abbrev fn_slices_Clone_S_impl_Transition_impl_Transition:Nat:=172
abbrev fn_slices_IndexFunc_S_int_int:Nat:=173
abbrev fn_slices_Grow_S_int_int:Nat:=174
abbrev fn_impl_components_1:Nat:=175
abbrev fn_slices_Index_S_int_int:Nat:=176
abbrev fn_runtime_boundsError_Error:Nat:=177
abbrev fn_runtime_boundsError_RuntimeError:Nat:=178
abbrev fn_runtime_errorString_Error:Nat:=179
abbrev fn_runtime_errorString_RuntimeError:Nat:=180
abbrev fn_runtime_plainError_Error:Nat:=181
abbrev fn_runtime_plainError_RuntimeError:Nat:=182
abbrev fn_runtime_errorAddressString_Error:Nat:=183
abbrev fn_runtime_errorAddressString_RuntimeError:Nat:=184
abbrev fn_runtime_TypeAssertionError_Error:Nat:=185
abbrev fn_runtime_TypeAssertionError_RuntimeError:Nat:=186
abbrev fn_runtime_PanicNilError_Error:Nat:=187
abbrev fn_runtime_PanicNilError_RuntimeError:Nat:=188
abbrev fn_internal_abi_Type_Align:Nat:=189
abbrev fn_internal_runtime_maps_unhashableTypeError_Error:Nat:=190
abbrev fn_internal_runtime_maps_unhashableTypeError_RuntimeError:Nat:=191
abbrev fn_impl_Formula_text:Nat:=192
abbrev fn_impl_Automaton_accepting:Nat:=193
abbrev fn_spec_l16Rd_word:Nat:=194
abbrev fn_internal_abi_Kind_String:Nat:=195
def H_impl_letters:Hint:=⟨[(0,false),(2,false)],[]⟩
abbrev K108_1:Pl:=.x 4 (.un .not (.v 3)) <|
 .m 1 4 .done
abbrev K108_2:C:=.seq (.pl <| .e 2 3 <|
 .m 2 0 <|
 .c 3 (.call fn_slices_ContainsFunc_S_int_int [.v 2,.c (.func (.func 154) #[] #[])]) K108_1) (.ret)
abbrev B_impl_letters:C:=.seq (.pl <| .e 2 0 <|
 .x 1 (.mv (.c (.bool false))) .done) K108_2
def R_impl_letters:FIR:=⟨B_impl_letters,2,[(1,none)]⟩
theorem IR_impl_letters:cfun Tryz.prog H_impl_letters Tryz.f108=some R_impl_letters:=by kernel_rfl
theorem EN_impl_letters:ENT Tryz.prog B_impl_letters [(1,none)] 1 2 fn_impl_letters:=fun hargs hw=>enter Tryz.func108 rfl IR_impl_letters hargs hw
def H_impl_letters_1:Hint:=⟨[(0,false),(2,false)],[]⟩
abbrev K154_1:Pl:=.x 4 (.un .not (.v 3)) <|
 .m 1 4 .done
abbrev K154_2:C:=.seq (.pl <| .e 2 3 <|
 .m 2 0 <|
 .c 3 (.call fn_impl_in [.v 2,.c (.int .i64 0),.c (.int .i64 7)]) K154_1) (.ret)
abbrev B_impl_letters_1:C:=.seq (.pl <| .e 2 0 <|
 .x 1 (.mv (.c (.bool false))) .done) K154_2
def R_impl_letters_1:FIR:=⟨B_impl_letters_1,2,[(1,none)]⟩
theorem IR_impl_letters_1:cfun Tryz.prog H_impl_letters_1 Tryz.f154=some R_impl_letters_1:=by kernel_rfl
theorem EN_impl_letters_1:ENT Tryz.prog B_impl_letters_1 [(1,none)] 1 2 fn_impl_letters_1:=fun hargs hw=>enter Tryz.func154 rfl IR_impl_letters_1 hargs hw
def H_slices_ContainsFunc_S_int_int:Hint:=⟨[(0,false),(1,false),(4,false)],[]⟩
abbrev K153_1:Pl:=.x 6 (.bin .geq (.v 5) (.c (.int .i64 0))) <|
 .m 2 6 .done
abbrev K153_2:C:=.seq (.pl <| .e 3 4 <|
 .m 3 0 <|
 .m 4 1 <|
 .c 5 (.call fn_slices_IndexFunc_S_int_int [.v 3,.v 4]) K153_1) (.ret)
abbrev B_slices_ContainsFunc_S_int_int:C:=.seq (.pl <| .e 3 0 <|
 .x 2 (.mv (.c (.bool false))) .done) K153_2
def R_slices_ContainsFunc_S_int_int:FIR:=⟨B_slices_ContainsFunc_S_int_int,3,[(2,none)]⟩
theorem IR_slices_ContainsFunc_S_int_int:cfun Tryz.prog H_slices_ContainsFunc_S_int_int Tryz.f153=some R_slices_ContainsFunc_S_int_int:=by kernel_rfl
theorem EN_slices_ContainsFunc_S_int_int:ENT Tryz.prog B_slices_ContainsFunc_S_int_int [(2,none)] 2 3 fn_slices_ContainsFunc_S_int_int:=fun hargs hw=>enter Tryz.func153 rfl IR_slices_ContainsFunc_S_int_int hargs hw
def H_slices_IndexFunc_S_int_int:Hint:=⟨[(0,false),(1,false),(4,false),(5,false),(7,false),(8,false)],[[2,3]]⟩
abbrev K173_1:C:=.seq (.pl <| .e 6 0 <|
 .x 2 (.mv (.c (.int .i64 (-1)))) .done) (.ret)
abbrev K173_2:C:=.pl <| .e 6 1 <|
 .x 6 (.bin .add (.v 5) (.c (.int .i64 1))) <|
 .m 5 6 .done
abbrev K173_3:C:=.seq (.pl <| .e 6 1 <|
 .m 6 3 <|
 .m 2 6 .done) (.ret)
abbrev K173_4:C:=.cond 6 (.v 11) K173_3 (.skip)
abbrev K173_5:C:=.seq (.pl <| .e 6 6 <|
 .m 6 1 <|
 .m 7 0 <|
 .m 8 3 <|
 .x 9 (.ia 1 (.v 7) (.v 8)) <|
 .l 10 9 <|
 .c 11 (.callv (.v 6) [.v 10]) .done) K173_4
abbrev K173_6:C:=.seq (.block 1 (.seq (.pl <| .e 6 1 <|
 .m 6 5 <|
 .m 3 6 .done) K173_5)) K173_2
abbrev K173_7:C:=.seq (.cond 6 (.v 6) (.skip) (.exit 0)) K173_6
abbrev K173_8:C:=.seq (.pl <| .e 6 1 <|
 .x 6 (.bin .lss (.v 5) (.v 4)) .done) K173_7
abbrev K173_9:C:=.block 0 (.loop 6 [2,3] K173_8)
abbrev K173_10:C:=.seq (.seq (.pl <| .e 6 1 <|
 .m 6 0 <|
 .x 4 (.lenV (.v 6)) <|
 .x 5 (.mv (.c (.int .i64 0))) .done) K173_9) K173_1
abbrev B_slices_IndexFunc_S_int_int:C:=.seq (.pl <| .e 6 0 <|
 .x 2 (.mv (.c (.int .i64 0))) .done) K173_10
def R_slices_IndexFunc_S_int_int:FIR:=⟨B_slices_IndexFunc_S_int_int,6,[(2,none)]⟩
theorem IR_slices_IndexFunc_S_int_int:cfun Tryz.prog H_slices_IndexFunc_S_int_int Tryz.f173=some R_slices_IndexFunc_S_int_int:=by kernel_rfl
theorem EN_slices_IndexFunc_S_int_int:ENT Tryz.prog B_slices_IndexFunc_S_int_int [(2,none)] 2 6 fn_slices_IndexFunc_S_int_int:=fun hargs hw=>enter Tryz.func173 rfl IR_slices_IndexFunc_S_int_int hargs hw
def H_spec_l16Open:Hint:=⟨[(0,false),(2,false)],[]⟩
abbrev K30_1:Pl:=.m 1 4 .done
abbrev K30_2:C:=.seq (.pl <| .e 2 3 <|
 .m 2 0 <|
 .x 3 (.build [.slice none 0 0,.int .i64 0] [(0,1,.v 2)]) <|
 .c 4 (.alloc (.v 3)) K30_1) (.ret)
abbrev K30_3:C:=.pl <| .e 2 2 <|
 .m 2 0 <|
 .x 3 (.sliceV 1 (.v 2) none (some (.c (.int .i64 2000))) none) <|
 .m 0 3 .done
abbrev K30_4:C:=.cond 2 (.v 4) K30_3 (.skip)
abbrev K30_5:C:=.seq (.seq (.pl <| .e 2 3 <|
 .m 2 0 <|
 .x 3 (.lenV (.v 2)) <|
 .x 4 (.bin .gtr (.v 3) (.c (.int .i64 2000))) .done) K30_4) K30_2
abbrev B_spec_l16Open:C:=.seq (.pl <| .e 2 0 <|
 .x 1 (.mv (.c (.pointer none))) .done) K30_5
def R_spec_l16Open:FIR:=⟨B_spec_l16Open,2,[(1,none)]⟩
theorem IR_spec_l16Open:cfun Tryz.prog H_spec_l16Open Tryz.f30=some R_spec_l16Open:=by kernel_rfl
theorem EN_spec_l16Open:ENT Tryz.prog B_spec_l16Open [(1,none)] 1 2 fn_spec_l16Open:=fun hargs hw=>enter Tryz.func30 rfl IR_spec_l16Open hargs hw
def H_spec_l16Rd_num:Hint:=⟨[(0,false),(1,false),(4,false)],[]⟩
abbrev K81_1:Pl:=.x 8 (.ia 1 (.v 3) (.v 7)) <|
 .l 9 8 <|
 .m 2 9 .done
abbrev K81_2:C:=.seq (.pl <| .e 3 7 <|
 .m 3 1 <|
 .m 4 0 <|
 .m 5 1 <|
 .x 6 (.lenV (.v 5)) <|
 .c 7 (.call fn_spec_l16Rd_pick [.v 4,.v 6]) K81_1) (.ret)
abbrev B_spec_l16Rd_num:C:=.seq (.pl <| .e 3 0 <|
 .x 2 (.mv (.c (.int .i64 0))) .done) K81_2
def R_spec_l16Rd_num:FIR:=⟨B_spec_l16Rd_num,3,[(2,none)]⟩
theorem IR_spec_l16Rd_num:cfun Tryz.prog H_spec_l16Rd_num Tryz.f81=some R_spec_l16Rd_num:=by kernel_rfl
theorem EN_spec_l16Rd_num:ENT Tryz.prog B_spec_l16Rd_num [(2,none)] 2 3 fn_spec_l16Rd_num:=fun hargs hw=>enter Tryz.func81 rfl IR_spec_l16Rd_num hargs hw
def H_spec_l16Rd_pick:Hint:=⟨[(0,false),(1,false),(4,false),(5,false),(6,false)],[]⟩
abbrev K85_1:C:=.seq (.pl <| .e 5 3 <|
 .m 5 4 <|
 .m 6 1 <|
 .x 7 (.bin .rem (.v 5) (.v 6)) <|
 .m 2 7 .done) (.ret)
abbrev K85_2:C:=.seq (.pl <| .e 5 4 <|
 .m 5 4 <|
 .m 6 4 <|
 .x 7 (.bin .quo (.v 6) (.c (.int .i64 64))) <|
 .x 8 (.bin .xor (.v 5) (.v 7)) <|
 .m 4 8 .done) K85_1
abbrev K85_3:C:=.seq (.pl <| .e 5 45 <|
 .m 5 0 <|
 .x 6 (.nilc (.v 5)) <|
 .x 7 (.fa 0 (.v 6)) <|
 .l 8 7 <|
 .m 9 3 <|
 .m 10 0 <|
 .x 11 (.nilc (.v 10)) <|
 .x 12 (.fa 0 (.v 11)) <|
 .l 13 12 <|
 .x 14 (.lenV (.v 13)) <|
 .x 15 (.bin .rem (.v 9) (.v 14)) <|
 .x 16 (.ia 1 (.v 8) (.v 15)) <|
 .l 17 16 <|
 .x 18 (.conv .i64 (.v 17)) <|
 .x 19 (.bin .mul (.v 18) (.c (.int .i64 131))) <|
 .m 20 0 <|
 .x 21 (.nilc (.v 20)) <|
 .x 22 (.fa 0 (.v 21)) <|
 .l 23 22 <|
 .m 24 3 <|
 .x 25 (.bin .mul (.v 24) (.c (.int .i64 7))) <|
 .x 26 (.bin .add (.v 25) (.c (.int .i64 3))) <|
 .m 27 0 <|
 .x 28 (.nilc (.v 27)) <|
 .x 29 (.fa 0 (.v 28)) <|
 .l 30 29 <|
 .x 31 (.lenV (.v 30)) <|
 .x 32 (.bin .rem (.v 26) (.v 31)) <|
 .x 33 (.ia 1 (.v 23) (.v 32)) <|
 .l 34 33 <|
 .x 35 (.conv .i64 (.v 34)) <|
 .x 36 (.bin .mul (.v 35) (.c (.int .i64 1117))) <|
 .x 37 (.bin .add (.v 19) (.v 36)) <|
 .m 38 3 <|
 .x 39 (.bin .mul (.v 38) (.c (.int .i64 29))) <|
 .x 40 (.bin .add (.v 37) (.v 39)) <|
 .m 41 3 <|
 .m 42 0 <|
 .x 43 (.nilc (.v 42)) <|
 .x 44 (.fa 0 (.v 43)) <|
 .l 45 44 <|
 .x 46 (.lenV (.v 45)) <|
 .x 47 (.bin .quo (.v 41) (.v 46)) <|
 .x 48 (.bin .mul (.v 47) (.c (.int .i64 53))) <|
 .x 49 (.bin .add (.v 40) (.v 48)) <|
 .m 4 49 .done) K85_2
abbrev K85_4:C:=.seq (.pl <| .e 5 10 <|
 .m 5 0 <|
 .x 6 (.nilc (.v 5)) <|
 .x 7 (.fa 0 (.v 6)) <|
 .l 8 7 <|
 .m 9 3 <|
 .x 10 (.ia 1 (.v 8) (.v 9)) <|
 .l 11 10 <|
 .x 12 (.conv .i64 (.v 11)) <|
 .m 13 1 <|
 .x 14 (.bin .rem (.v 12) (.v 13)) <|
 .m 2 14 .done) (.ret)
abbrev K85_5:C:=.cond 5 (.v 11) K85_4 (.skip)
abbrev K85_6:C:=.seq (.seq (.pl <| .e 5 7 <|
 .m 5 3 <|
 .m 6 0 <|
 .x 7 (.nilc (.v 6)) <|
 .x 8 (.fa 0 (.v 7)) <|
 .l 9 8 <|
 .x 10 (.lenV (.v 9)) <|
 .x 11 (.bin .lss (.v 5) (.v 10)) .done) K85_5) K85_3
abbrev K85_7:C:=.seq (.pl <| .e 5 5 <|
 .m 5 0 <|
 .x 6 (.nilc (.v 5)) <|
 .x 7 (.fa 1 (.v 6)) <|
 .l 8 7 <|
 .x 9 (.bin .sub (.v 8) (.c (.int .i64 1))) <|
 .m 3 9 .done) K85_6
abbrev K85_8:C:=.seq (.pl <| .e 5 0 <|
 .x 2 (.mv (.c (.int .i64 0))) .done) (.ret)
abbrev K85_9:C:=.cond 5 (.v 14) K85_8 (.skip)
abbrev K85_10:C:=.seq (.seq (.pl <| .e 5 10 <|
 .m 5 1 <|
 .x 6 (.bin .lss (.v 5) (.c (.int .i64 1))) <|
 .m 7 6 <|
 .n 7 (.px (some 8) (.mv (.v 0))) <|
 .n 7 (.px (some 9) (.nilc (.v 8))) <|
 .n 7 (.px (some 10) (.fa 0 (.v 9))) <|
 .n 7 (.ld (some 11) (.v 10) none) <|
 .n 7 (.px (some 12) (.lenV (.v 11))) <|
 .n 7 (.px (some 13) (.bin .eql (.v 12) (.c (.int .i64 0)))) <|
 .x 14 (.pick (.v 7) (.c (.bool true)) (.v 13)) .done) K85_9) K85_7
abbrev K85_11:C:=.seq (.pl <| .e 5 8 <|
 .m 5 0 <|
 .m 6 0 <|
 .x 7 (.nilc (.v 6)) <|
 .x 8 (.fa 1 (.v 7)) <|
 .l 9 8 <|
 .x 10 (.bin .add (.v 9) (.c (.int .i64 1))) <|
 .x 11 (.nilc (.v 5)) <|
 .x 12 (.fa 1 (.v 11)) <|
 .o (.ex none (.store 1 (.v 12) (.v 10))) .done) K85_10
abbrev B_spec_l16Rd_pick:C:=.seq (.pl <| .e 5 0 <|
 .x 2 (.mv (.c (.int .i64 0))) .done) K85_11
def R_spec_l16Rd_pick:FIR:=⟨B_spec_l16Rd_pick,5,[(2,none)]⟩
theorem IR_spec_l16Rd_pick:cfun Tryz.prog H_spec_l16Rd_pick Tryz.f85=some R_spec_l16Rd_pick:=by kernel_rfl
theorem EN_spec_l16Rd_pick:ENT Tryz.prog B_spec_l16Rd_pick [(2,none)] 2 5 fn_spec_l16Rd_pick:=fun hargs hw=>enter Tryz.func85 rfl IR_spec_l16Rd_pick hargs hw
def H_spec_l5Formula:Hint:=⟨[(0,false),(2,true),(3,true)],[]⟩
abbrev K80_1:Pl:=.x 5 (.build [.int .i64 0,.int .i64 0,.slice none 0 0] [(0,1,.c (.int .i64 10)),(2,1,.v 4)]) <|
 .o (.pset none 1 0 3 (.v 5)) .done
abbrev K80_2:C:=.seq (.pl <| .e 3 3 <|
 .x 3 (.build [.int .i64 0,.int .i64 0,.slice none 0 0] [(0,1,.c (.int .i64 2))]) <|
 .c 4 (.bls 3 1 [.int .i64 0,.int .i64 0,.slice none 0 0] [(0,3,.v 3)]) K80_1) (.ret)
abbrev K80_3:C:=.seq (.pl <| .e 3 1 <|
 .o (.pget (some 3) none 2 0 (some 3)) <|
 .o (.pset none 1 0 3 (.v 3)) .done) (.ret)
abbrev K80_4:C:=.cond 3 (.v 4) K80_3 (.skip)
abbrev K80_5:C:=.seq (.seq (.pl <| .e 3 2 <|
 .o (.pget (some 3) none 2 0 (some 3)) <|
 .c 4 (.call fn_spec_FormulaValid [.v 3]) .done) K80_4) K80_2
abbrev K80_6:Pl:=.o (.pnew 2 (.c (.agg #[.int .i64 0,.int .i64 0,.slice none 0 0])) []) <|
 .o (.pset none 2 0 3 (.v 7)) .done
abbrev K80_7:Pl:=.c 7 (.call fn_spec_l5Random [.v 3,.v 6]) K80_6
abbrev K80_8:Pl:=.c 6 (.call fn_spec_l16Rd_num [.v 4,.v 5]) K80_7
abbrev K80_9:C:=.seq (.pl <| .e 3 5 <|
 .m 3 0 <|
 .m 4 0 <|
 .c 5 (.bls 1 4 [.int .i64 0] [(0,1,.c (.int .i64 3)),(1,1,.c (.int .i64 2)),(2,1,.c (.int .i64 4)),(3,1,.c (.int .i64 3))]) K80_8) K80_5
abbrev B_spec_l5Formula:C:=.seq (.pl <| .e 3 0 <|
 .o (.pnew 1 (.c (.agg #[.int .i64 0,.int .i64 0,.slice none 0 0])) []) .done) K80_9
def R_spec_l5Formula:FIR:=⟨B_spec_l5Formula,3,[(1,some (some 3))]⟩
theorem IR_spec_l5Formula:cfun Tryz.prog H_spec_l5Formula Tryz.f80=some R_spec_l5Formula:=by kernel_rfl
theorem EN_spec_l5Formula:ENT Tryz.prog B_spec_l5Formula [(1,some (some 3))] 1 3 fn_spec_l5Formula:=fun hargs hw=>enter Tryz.func80 rfl IR_spec_l5Formula hargs hw
def H_spec_l5Mutate:Hint:=⟨[(0,false),(1,false),(3,true),(4,true),(5,true),(9,false)],[]⟩
abbrev K79_1:C:=.seq (.pl <| .e 6 1 <|
 .o (.pget (some 6) none 4 0 (some 3)) <|
 .o (.pset none 3 0 3 (.v 6)) .done) (.ret)
abbrev K79_2:Pl:=.a 9 4 <|
 .o (.pset (some 9) 4 0 1 (.v 8)) .done
abbrev K79_3:Pl:=.c 8 (.call fn_spec_l16Rd_num [.v 6,.v 7]) K79_2
abbrev K79_4:C:=.pl <| .e 6 4 <|
 .m 6 0 <|
 .c 7 (.bls 1 6 [.int .i64 0] [(0,1,.c (.int .i64 0)),(1,1,.c (.int .i64 11)),(2,1,.c (.int .i64 (-1))),(3,1,.c (.int .i64 2)),(4,1,.c (.int .i64 3)),(5,1,.c (.int .i64 4))]) K79_3
abbrev K79_5:Pl:=.a 9 4 <|
 .o (.pset (some 9) 4 1 1 (.v 8)) .done
abbrev K79_6:Pl:=.c 8 (.call fn_spec_l16Rd_num [.v 6,.v 7]) K79_5
abbrev K79_7:C:=.pl <| .e 6 4 <|
 .m 6 0 <|
 .c 7 (.bls 1 4 [.int .i64 0] [(0,1,.c (.int .i64 (-1))),(1,1,.c (.int .i64 3)),(2,1,.c (.int .i64 2)),(3,1,.c (.int .i64 9223372036854775807))]) K79_6
abbrev K79_8:Pl:=.a 11 4 <|
 .o (.pset (some 11) 4 2 1 (.v 10)) .done
abbrev K79_9:Pl:=.o (.psl 9 [.int .i64 0,.int .i64 0,.slice none 0 0] [(0,3,.v 8)]) <|
 .c 10 (.app 40 3 [.int .i64 0,.int .i64 0,.slice none 0 0] (.o (.v 7)) (.p 1 9)) K79_8
abbrev K79_10:C:=.pl <| .e 6 6 <|
 .a 6 4 <|
 .g 7 6 4 2 <|
 .c 8 (.call fn_spec_l5True []) K79_9
abbrev K79_11:C:=.seq (.pl <| .e 6 1 <|
 .x 6 (.build [.int .i64 0,.int .i64 0,.slice none 0 0] []) <|
 .o (.pset none 3 0 3 (.v 6)) .done) (.ret)
abbrev K79_12:C:=.cond 6 (.v 7) K79_11 (.skip)
abbrev K79_13:C:=.seq (.pl <| .e 6 2 <|
 .x 6 (.bin .eql (.v 5) (.c (.int .i64 3))) <|
 .m 7 6 .done) K79_12
abbrev K79_14:C:=.cond 6 (.v 7) K79_10 K79_13
abbrev K79_15:C:=.seq (.pl <| .e 6 2 <|
 .x 6 (.bin .eql (.v 5) (.c (.int .i64 2))) <|
 .m 7 6 .done) K79_14
abbrev K79_16:C:=.cond 6 (.v 7) K79_7 K79_15
abbrev K79_17:C:=.seq (.pl <| .e 6 2 <|
 .x 6 (.bin .eql (.v 5) (.c (.int .i64 1))) <|
 .m 7 6 .done) K79_16
abbrev K79_18:C:=.cond 6 (.v 7) K79_4 K79_17
abbrev K79_19:C:=.block 0 (.seq (.pl <| .e 6 2 <|
 .x 6 (.bin .eql (.v 5) (.c (.int .i64 0))) <|
 .m 7 6 .done) K79_18)
abbrev K79_20:C:=.seq (.seq (.pl <| .e 6 1 <|
 .m 6 0 <|
 .c 5 (.call fn_spec_l16Rd_pick [.v 6,.c (.int .i64 50)]) .done) K79_19) K79_1
abbrev K79_21:Pl:=.o (.pnew 4 (.c (.agg #[.int .i64 0,.int .i64 0,.slice none 0 0])) []) <|
 .o (.pset none 4 0 3 (.v 7)) .done
abbrev K79_22:C:=.seq (.pl <| .e 6 2 <|
 .o (.pget (some 6) none 2 0 (some 3)) <|
 .c 7 (.call fn_spec_l5Copy [.v 6]) K79_21) K79_20
abbrev B_spec_l5Mutate:C:=.seq (.pl <| .e 6 0 <|
 .o (.pnew 2 (.v 1) []) <|
 .o (.pnew 3 (.c (.agg #[.int .i64 0,.int .i64 0,.slice none 0 0])) []) .done) K79_22
def R_spec_l5Mutate:FIR:=⟨B_spec_l5Mutate,6,[(3,some (some 3))]⟩
theorem IR_spec_l5Mutate:cfun Tryz.prog H_spec_l5Mutate Tryz.f79=some R_spec_l5Mutate:=by kernel_rfl
theorem EN_spec_l5Mutate:ENT Tryz.prog B_spec_l5Mutate [(3,some (some 3))] 2 6 fn_spec_l5Mutate:=fun hargs hw=>enter Tryz.func79 rfl IR_spec_l5Mutate hargs hw
def H_spec_l5Random:Hint:=⟨[(0,false),(1,false),(4,true),(5,true),(6,false)],[[]]⟩
abbrev K134_1:C:=.seq (.pl <| .e 5 1 <|
 .o (.pget (some 5) none 3 0 (some 3)) <|
 .o (.pset none 2 0 3 (.v 5)) .done) (.ret)
abbrev K134_2:C:=.pl <| .e 5 2 <|
 .m 5 4 <|
 .x 6 (.bin .sub (.v 5) (.c (.int .i64 1))) <|
 .m 4 6 .done
abbrev K134_3:Pl:=.a 13 3 <|
 .o (.pset (some 13) 3 2 1 (.v 12)) .done
abbrev K134_4:Pl:=.o (.psl 11 [.int .i64 0,.int .i64 0,.slice none 0 0] [(0,3,.v 10)]) <|
 .c 12 (.app 40 3 [.int .i64 0,.int .i64 0,.slice none 0 0] (.o (.v 6)) (.p 1 11)) K134_3
abbrev K134_5:C:=.seq (.block 1 (.pl <| .e 5 9 <|
 .a 5 3 <|
 .g 6 5 3 2 <|
 .m 7 0 <|
 .m 8 1 <|
 .x 9 (.bin .sub (.v 8) (.c (.int .i64 1))) <|
 .c 10 (.call fn_spec_l5Random [.v 7,.v 9]) K134_4)) K134_2
abbrev K134_6:C:=.cond 5 (.v 6) (.skip) (.exit 0)
abbrev K134_7:C:=.seq (.seq (.pl <| .e 5 2 <|
 .m 5 4 <|
 .x 6 (.bin .gtr (.v 5) (.c (.int .i64 0))) .done) K134_6) K134_5
abbrev K134_8:C:=.block 0 (.loop 5 [] K134_7)
abbrev K134_9:Pl:=.m 4 7 .done
abbrev K134_10:C:=.seq (.seq (.pl <| .e 5 3 <|
 .a 5 3 <|
 .g 6 5 3 0 <|
 .c 7 (.call fn_spec_l5Arity [.v 6]) K134_9) K134_8) K134_1
abbrev K134_11:Pl:=.x 8 (.build [.int .i64 0,.int .i64 0,.slice none 0 0] [(0,1,.v 7)]) <|
 .o (.pnew 3 (.c (.agg #[.int .i64 0,.int .i64 0,.slice none 0 0])) []) <|
 .o (.pset none 3 0 3 (.v 8)) .done
abbrev K134_12:Pl:=.c 7 (.call fn_spec_l16Rd_num [.v 5,.v 6]) K134_11
abbrev K134_13:C:=.seq (.pl <| .e 5 4 <|
 .m 5 0 <|
 .c 6 (.bls 1 8 [.int .i64 0] [(0,1,.c (.int .i64 7)),(1,1,.c (.int .i64 9)),(2,1,.c (.int .i64 10)),(3,1,.c (.int .i64 3)),(4,1,.c (.int .i64 4)),(5,1,.c (.int .i64 5)),(6,1,.c (.int .i64 6)),(7,1,.c (.int .i64 8))]) K134_12) K134_10
abbrev K134_14:Pl:=.x 8 (.build [.int .i64 0,.int .i64 0,.slice none 0 0] [(0,1,.c (.int .i64 2)),(1,1,.v 7)]) <|
 .o (.pset none 2 0 3 (.v 8)) .done
abbrev K134_15:Pl:=.c 7 (.call fn_spec_l16Rd_num [.v 5,.v 6]) K134_14
abbrev K134_16:C:=.seq (.pl <| .e 5 4 <|
 .m 5 0 <|
 .c 6 (.bls 1 4 [.int .i64 0] [(0,1,.c (.int .i64 0)),(1,1,.c (.int .i64 1)),(2,1,.c (.int .i64 0)),(3,1,.c (.int .i64 2))]) K134_15) (.ret)
abbrev K134_17:Pl:=.o (.pset none 2 0 3 (.v 5)) .done
abbrev K134_18:C:=.seq (.pl <| .e 5 1 <|
 .c 5 (.call fn_spec_l5True []) K134_17) (.ret)
abbrev K134_19:C:=.cond 5 (.v 7) K134_18 (.skip)
abbrev K134_20:Pl:=.x 7 (.bin .eql (.v 6) (.c (.int .i64 0))) .done
abbrev K134_21:C:=.seq (.seq (.pl <| .e 5 3 <|
 .m 5 0 <|
 .c 6 (.call fn_spec_l16Rd_pick [.v 5,.c (.int .i64 8)]) K134_20) K134_19) K134_16
abbrev K134_22:C:=.cond 5 (.v 11) K134_21 (.skip)
abbrev K134_23:Pl:=.n 7 (.px (some 10) (.bin .eql (.v 9) (.c (.int .i64 0)))) <|
 .x 11 (.pick (.v 7) (.c (.bool true)) (.v 10)) .done
abbrev K134_24:C:=.seq (.seq (.pl <| .e 5 7 <|
 .m 5 1 <|
 .x 6 (.bin .lss (.v 5) (.c (.int .i64 2))) <|
 .m 7 6 <|
 .n 7 (.px (some 8) (.mv (.v 0))) <|
 .st (.act (some (.v 7,false)) (.ex (some 9) (.call fn_spec_l16Rd_pick [.v 8,.c (.int .i64 5)]))) K134_23) K134_22) K134_13
abbrev B_spec_l5Random:C:=.seq (.pl <| .e 5 0 <|
 .o (.pnew 2 (.c (.agg #[.int .i64 0,.int .i64 0,.slice none 0 0])) []) .done) K134_24
def R_spec_l5Random:FIR:=⟨B_spec_l5Random,5,[(2,some (some 3))]⟩
theorem IR_spec_l5Random:cfun Tryz.prog H_spec_l5Random Tryz.f134=some R_spec_l5Random:=by kernel_rfl
theorem EN_spec_l5Random:ENT Tryz.prog B_spec_l5Random [(2,some (some 3))] 2 5 fn_spec_l5Random:=fun hargs hw=>enter Tryz.func134 rfl IR_spec_l5Random hargs hw
universe u
section
variable {α:Type} [Ty α] {h:Heap}{v:Value}
theorem Rep.X {l:List α}(hr:Rep h v l) {n:Nat}(hn:n=Ty.sz α):(∀(kd:IntKind) (i:Nat),i<l.length→iaV n v (.int kd i)=some (elp n v i))∧(∀(kd:IntKind) (i:Int),0≤i→i<l.length→iaV n v (.int kd i)=some (elp n v i.toNat))∧lenVV v=some (.int .i64 l.length):=
 ⟨fun _ _ h1=>hr.ian hn h1,fun _ _ h0 h1=>hr.ia' hn h0 h1,hr.len⟩
end
section
variable {h:Heap}{v:Value}
theorem Rep.I {l:List Int}(hr:Rep h v l):((∀(kd:IntKind) (i:Nat),i<l.length→iaV 1 v (.int kd i)=some (elp 1 v i))∧(∀(kd:IntKind) (i:Int),0≤i→i<l.length→iaV 1 v (.int kd i)=some (elp 1 v i.toNat))∧lenVV v=some (.int .i64 l.length)) ∧
  ∀(i:Nat) (hi:i<l.length),hload h (some (elp 1 v i)) none=some (.int .i64 l[i]):=⟨hr.X rfl,fun _ hi=>hr.ldI hi⟩
theorem Rep.B {l:List Bool}(hr:Rep h v l):((∀(kd:IntKind) (i:Nat),i<l.length→iaV 1 v (.int kd i)=some (elp 1 v i))∧(∀(kd:IntKind) (i:Int),0≤i→i<l.length→iaV 1 v (.int kd i)=some (elp 1 v i.toNat))∧lenVV v=some (.int .i64 l.length)) ∧
  ∀(i:Nat) (hi:i<l.length),hload h (some (elp 1 v i)) none=some (.bool l[i]):=⟨hr.X rfl,fun _ hi=>hr.ldB hi⟩
theorem Rep.S {l:List ByteArray}(hr:Rep h v l):((∀(kd:IntKind) (i:Nat),i<l.length→iaV 1 v (.int kd i)=some (elp 1 v i))∧(∀(kd:IntKind) (i:Int),0≤i→i<l.length→iaV 1 v (.int kd i)=some (elp 1 v i.toNat))∧lenVV v=some (.int .i64 l.length)) ∧
  ∀(i:Nat) (hi:i<l.length),hload h (some (elp 1 v i)) none=some (.string l[i]):=⟨hr.X rfl,fun _ hi=>hr.ldS hi⟩
theorem Rep.U {l:List (BitVec 64)}(hr:Rep h v l):((∀(kd:IntKind) (i:Nat),i<l.length→iaV 1 v (.int kd i)=some (elp 1 v i))∧(∀(kd:IntKind) (i:Int),0≤i→i<l.length→iaV 1 v (.int kd i)=some (elp 1 v i.toNat))∧lenVV v=some (.int .i64 l.length)) ∧
  ∀(i:Nat) (hi:i<l.length),hload h (some (elp 1 v i)) none=some (.int .u64 l[i].toNat):=⟨hr.X rfl,fun _ hi=>hr.ldU hi⟩
theorem Rep.ldL {α:Type} [Ty α] {l:List (List α)}(hr:Rep h v l) {i:Nat}(hi:i<l.length):∃u,hload h (some (elp 1 v i)) none=some u∧Rep h u l[i]:=hr.ld hi
end
theorem IteW.mkr {p A B:Prop}(h2:¬p→B) (h1:p→A):IteW p A B:=⟨h1,h2⟩
theorem wp_while {P:Program}{Q:Ex→Env→Heap→Prop}{e:Env}{h:Heap}{n:Nat}{fg:List Nat}{a:C}{σ:Type}(Enc:σ→Env→Heap→Prop) (m:σ→Nat) (s0:σ) (h0:Enc s0 (efgt (e.take n) fg) h)
  (hs:∀(J:Env→Heap→Prop) s e h,(∀s' e h,m s'<m s→Enc s' e h→J e h)→Enc s e h→a.wp P (loopQ n fg J Q) e h):(C.loop n fg a).wp P Q e h:=by
 refine wp_loop (fun k e h=>∃s,m s=k∧Enc s e h) ⟨_,s0,rfl,h0⟩ ?_
 rintro I' k e h hI ⟨s,rfl,hE⟩
 exact hs I' s e h (fun s' e h hlt hE=>hI (m s') e h hlt ⟨s',rfl,hE⟩) hE
theorem own1 {α:Type} [Ty α] (ha:Ty.agg α=false) {r:Heap}{cs:List Value}{x:α}:Ty.own r cs x↔∃v,cs=[v]∧Own r v x:=by
 constructor
 ·intro ho
  have hl:=Ty.len (Ty.own_rep ho)
  rw[Ty.one ha] at hl
  match cs,hl with
  | [v],_=>exact⟨v,rfl,[v],by simp[valC,ha],ho⟩
 ·rintro⟨v,rfl,c,h1,h2⟩
  have hl:=Ty.len (Ty.own_rep h2)
  rw[Ty.one ha] at hl
  match c,hl with
  | [u],_=>simp[valC,ha] at h1;subst h1;exact h2
theorem rep1 {α:Type} [Ty α] (ha:Ty.agg α=false) {r:Heap}{cs:List Value}{x:α}:Ty.rep r cs x↔∃v,cs=[v]∧Rep r v x:=by
 constructor
 ·intro ho
  have hl:=Ty.len ho
  rw[Ty.one ha] at hl
  match cs,hl with
  | [v],_=>exact⟨v,rfl,[v],by simp[valC,ha],ho⟩
 ·rintro⟨v,rfl,c,h1,h2⟩
  have hl:=Ty.len h2
  rw[Ty.one ha] at hl
  match c,hl with
  | [u],_=>simp[valC,ha] at h1;subst h1;exact h2
section
variable {α:Type} [Ty α] {h:Heap}{v:Value}{l:List α}{i:Nat}
theorem Rep.fld [Flat α] (hr:Rep h v l) (hi:i<l.length) {n j:Nat}(hn:n=Ty.sz α) {u:Value}(hj:(Flat.enc l[i])[j]? = some u):hload h (some (elpo n v i j)) none=some u:=by
 subst hn
 obtain⟨p,cap,rfl,hc,hp,hl⟩:=Rep_list.1 hr
 obtain⟨b,off,vs,rfl,h1,h2⟩:=hl i hi
 rw[← (Flat.rep_iff.1 h2).1] at hj
 have:=(hcells_get h1).2 j u hj
 simp[elpo,add_none,hload,this]
end
theorem Rep.A {α:Type} [Ty α] {h:Heap}{v:Value}{x:α}(hr:Rep h v x) (ha:Ty.agg α=true) {n:Nat}(hn:n=Ty.sz α):pgetV (some v) 0 (some n)=some v∧v.cells.size=n∧allOne v.cells.toList=true∧Value.agg v.cells=v:=by
 obtain⟨cs,rfl,h1⟩:=hr
 have h2:=Ty.len h1
 have h3:=Ty.cell h1
 subst hn
 simp only[valC,ha,if_true]
 refine⟨?_,by simpa using h2,?_,rfl⟩
 ·simp[h2]
 ·rw[← allOne_eq];simpa using h3
def owC {α:Type} [Ty α] (cs:List Value) (x:α):HP:=fun r=>Ty.own r cs x
section
variable {g h:Heap}{Γ:List HP}
theorem HS.join2 {p p1 p2:HP}(H:HS g (p1::p2::Γ) h) (hp:∀r1 r2,Dj r1 r2→p1 r1→p2 r2→p (r1.add r2)):HS g (p::Γ) h:=by
 obtain⟨g1,r1,rfl,d1,h1,g',r2,rfl,d2,h2,H⟩:=H
 obtain⟨d3,d4⟩:=add_Dj.1 d1
 refine⟨g',r1.add r2,?_,Dj_add.2 ⟨d3,d2⟩,hp r1 r2 d4.symm h1 h2,H⟩
 rw[add_assoc,d4.comm]
theorem HS.via {α β:Type} [Ty β] (f:α→β) {cs:List Value}{x:α}(H:HS g (owC cs (f x)::Γ) h):HS g (@ow α (Ty.via f) (.agg cs.toArray) x::Γ) h:=
 H.imp fun _ ho=>⟨cs,rfl,ho⟩
theorem HS.one {α:Type} [Ty α] (ha:Ty.agg α=false) {v:Value}{x:α}(H:HS g (ow v x::Γ) h):HS g (owC [v] x::Γ) h:=H.imp fun _ ho=>(own1 ha).2 ⟨v,rfl,ho⟩
theorem HS.prod {α β:Type} [Ty α] [Ty β] (ha:Ty.agg α=false) {v:Value}{cs:List Value}{x:α}{y:β}(H:HS g (ow v x::owC cs y::Γ) h):HS g (owC (v::cs) (x,y)::Γ) h:=
 H.join2 fun r1 r2 d h1 h2=>⟨[v],cs,r1,r2,rfl,rfl,d,(own1 ha).2 ⟨v,rfl,h1⟩,h2⟩
end
class Sz (α:Type) where
 sz:α→Nat
instance:Sz Int:=⟨fun _=>0⟩
instance:Sz Bool:=⟨fun _=>0⟩
def szL {α:Type} [Sz α]:List α→Nat
 | []=>0
 | x::l=>Sz.sz x+szL l
instance instSzList {α:Type} [Sz α]:Sz (List α):=⟨fun l=>l.length+szL l⟩
theorem sz_list {α:Type} [Sz α] (l:List α):Sz.sz l=l.length+szL l:=rfl
theorem szL_get {α:Type} [Sz α]:∀{l:List α}{i:Nat}(hi:i<l.length),Sz.sz l[i]≤szL l
 | x::l,0,_=>by simp[szL]
 | x::l,i+1,hi=>by
  have:=szL_get (l:=l) (i:=i) (by simpa using hi)
  simp[szL];omega
class Mk (α:Type) where
 cnt:α→Nat
 wr:Int→α→α
 cnt_wr:∀k x,cnt (wr k x)=cnt x
 wr_wr:∀k j x,wr k (wr j x)=wr k x
def cntL {α:Type} [Mk α]:List α→Nat
 | []=>0
 | x::l=>Mk.cnt x+cntL l
def mkL {α:Type} [Mk α]:Int→List α→List α
 | _,[]=>[]
 | k,x::l=>Mk.wr k x::mkL (k+Mk.cnt x) l
section
variable {α:Type} [Mk α]
theorem cntL_mk:∀(k:Int) (l:List α),cntL (mkL k l)=cntL l
 | _,[]=>rfl
 | k,x::l=>by simp[cntL,mkL,Mk.cnt_wr,cntL_mk (k+Mk.cnt x) l]
theorem mkL_mk:∀(k j:Int) (l:List α),mkL k (mkL j l)=mkL k l
 | _,_,[]=>rfl
 | k,j,x::l=>by simp[mkL,Mk.cnt_wr,Mk.wr_wr,mkL_mk (k+Mk.cnt x) (j+Mk.cnt x) l]
@[simp] theorem mkL_length:∀(k:Int) (l:List α),(mkL k l).length=l.length
 | _,[]=>rfl
 | k,x::l=>by simp[mkL,mkL_length (k+Mk.cnt x) l]
theorem mkL_get:∀(k:Int) (l:List α) (i:Nat) (hi:i<l.length),(mkL k l)[i]'(by simpa using hi)=Mk.wr (k+cntL (l.take i)) l[i]
 | _,[],i,hi=>by simp at hi
 | k,x::l,0,_=>by simp[mkL,cntL]
 | k,x::l,i+1,hi=>by
  simp only[mkL,List.getElem_cons_succ,List.take_succ_cons,cntL]
  rw[mkL_get (k+Mk.cnt x) l i (by simpa using hi)]
  congr 1
  push_cast
  omega
instance instMkList:Mk (List α):=⟨cntL,mkL,cntL_mk,mkL_mk⟩
end
instance instMkInt:Mk Int:=⟨fun _=>1,fun k _=>k,fun _ _=>rfl,fun _ _ _=>rfl⟩
instance instMkBool:Mk Bool:=⟨fun _=>1,fun k _=>decide (k.tmod 3=0),fun _ _=>rfl,fun _ _ _=>rfl⟩
structure Mkd {α:Type} [Mk α] (k:Int) (x y:List α) (i:Nat):Prop where
 len:y.length=x.length
 done:y.take i=(mkL k x).take i
 rest:y.drop i=x.drop i
section
variable {α:Type} [Mk α] {k:Int}{x y:List α}{i:Nat}
theorem Mkd.zero:Mkd k x x 0:=⟨rfl,rfl,rfl⟩
theorem Mkd.get (h:Mkd k x y i) (hi:i<x.length):y[i]'(by rw[h.len];exact hi)=x[i]:=by
 have:=congrArg (fun l=>l[0]?) h.rest
 simp[List.getElem?_drop,hi,h.len] at this
 exact this
theorem Mkd.step (h:Mkd k x y i) (hi:i<x.length):Mkd k x (y.set i (Mk.wr (k+cntL (x.take i)) x[i])) (i+1):=by
 refine⟨by simp[h.len],?_,?_⟩
 ·have:=take_set_succ (x:=mkL k x) h.done (by simpa using hi) (by simpa using h.len)
  rwa [mkL_get k x i hi] at this
 ·rw[List.drop_set_of_lt (by omega)]
  have:=congrArg (List.drop 1) h.rest
  simpa[List.drop_drop] using this
theorem Mkd.all (h:Mkd k x y i) (hi:x.length≤i):y=mkL k x:=eq_of_take h.done (by simpa using hi) (by simpa using h.len)
end
theorem take_step {α:Type}{x y:List α}{i:Nat}(h:x.take i=y.take i) (h1:i<x.length) (h2:i<y.length) (he:x[i]=y[i]):x.take (i+1)=y.take (i+1):=by
 rw[List.take_add_one,List.take_add_one,h,List.getElem?_eq_getElem h1,List.getElem?_eq_getElem h2,he]
@[simp] theorem ite_lt_zero {α:Type}{b:Int}{x y:α}(h:0≤b):(if b<0 then x else y)=y:=if_neg (by omega)
def setB (a:BitVec 64) (j:Nat):BitVec 64:=a|||(1#64<<<j)
theorem one_bit {j i:Nat}(hj:j<64):(1#64<<<j).getLsbD i=decide (i=j):=by
 rw[BitVec.getLsbD_shiftLeft,BitVec.getLsbD_one]
 by_cases h1:i=j
 ·subst h1;simp[hj]
 ·by_cases h2:i<j
  ·simp[h1,h2]
  ·have h3:¬(i-j=0):=by omega
   simp[h1,h3]
theorem setB_get {a:BitVec 64}{j i:Nat}(hj:j<64):(setB a j).getLsbD i=(a.getLsbD i||decide (i=j)):=by
 rw[setB,BitVec.getLsbD_or,one_bit hj]
structure W8 where
 l:List (BitVec 64)
 len:l.length=8
def W8.zero:W8:=⟨List.replicate 8 0,rfl⟩
def W8.put (w:W8) (j:Nat) (x:BitVec 64):W8:=⟨w.l.set j x,by simp[w.len]⟩
def W8.at (w:W8) (j:Nat):BitVec 64:=w.l.getD j 0
def W8.enc (w:W8):List Value:=w.l.map fun b=>.int .u64 b.toNat
instance instTyW8:Ty W8 where
 agg:=true
 sz:=8
 rep:=fun _ cs x=>cs=x.enc
 own:=fun r cs x=>r=Heap.nil∧cs=x.enc
 one:=fun h=>by simp at h
 len:=by rintro h cs x rfl;simp[W8.enc,x.len]
 cell:=by
  rintro h cs x rfl v hv
  simp only[W8.enc,List.mem_map] at hv
  obtain⟨b,_,rfl⟩:=hv
  rfl
 mono:=fun _ hr=>hr
 own_rep:=fun ho=>ho.2
instance instFlatW8:Flat W8:=⟨W8.enc,fun _=>True,by simp[Ty.rep],by simp[Ty.own]⟩
theorem W8.enc_at (w:W8) {j:Nat}(hj:j<8):w.enc[j]? = some (.int .u64 (w.at j).toNat):=by
 have:j<w.l.length:=by rw[w.len];exact hj
 simp[W8.enc,W8.at,this]
theorem W8.put_at (w:W8) {j i:Nat}{x:BitVec 64}(hj:j<8):(w.put j x).at i=if i=j then x else w.at i:=by
 have:j<w.l.length:=by rw[w.len];exact hj
 simp only[W8.at,W8.put,List.getD_eq_getElem?_getD,List.getElem?_set]
 split
 ·rename_i h;subst h;simp[this]
 ·rename_i h;rw[if_neg (fun h2=>h h2.symm)]
section
variable {α:Type} [Ty α] {h:Heap}{v:Value}{l:List α}{i:Nat}
theorem Rep.iaA (hr:Rep h v l) (hi:i<l.length) {n m:Nat}{kd:IntKind}{j:Nat}(hj:j<m):iaAV m 1 (elp n v i) (.int kd j)=some (elpo n v i j):=by
 obtain⟨p,cap,rfl,hc,hp,hl⟩:=Rep_list.1 hr
 obtain⟨b,off,vs,rfl,_⟩:=hl i hi
 have:(j:Int)<m:=by omega
 simp[iaAV,elp,elpo,this]
theorem Rep.W {l:List W8}(hr:Rep h v l):((∀(kd:IntKind) (i:Nat),i<l.length→iaV 8 v (.int kd i)=some (elp 8 v i))∧(∀(kd:IntKind) (i:Int),0≤i→i<l.length→iaV 8 v (.int kd i)=some (elp 8 v i.toNat))∧lenVV v=some (.int .i64 l.length)) ∧
  (∀(kd:IntKind) (i j:Nat),i<l.length→j<8→iaAV 8 1 (elp 8 v i) (.int kd j)=some (elpo 8 v i j)) ∧
  ∀(i j:Nat) (hi:i<l.length),j<8→hload h (some (elpo 8 v i j)) none=some (.int .u64 (l[i].at j).toNat):=
 ⟨hr.X rfl,fun _ _ _ hi hj=>hr.iaA hi hj,fun _ _ hi hj=>hr.fld hi rfl (W8.enc_at _ hj)⟩
end
theorem Rep.isNil {α:Type} [Ty α] {h:Heap}{v:Value}{l:List α}(hr:Rep h v l):∃b,isNilV false v=some (.bool b)∧(b=true→l=[]):=by
 obtain⟨p,cap,rfl,h1,h2,h3⟩:=Rep_list.1 hr
 refine⟨p.isNone,rfl,fun hp=>?_⟩
 cases l with
 | nil=>rfl
 | cons x l=>obtain⟨b,off,vs,h4,_⟩:=h3 0 (by simp);subst h4;simp at hp
theorem Own.clip {α:Type} [Ty α] {r:Heap}{v:Value}{l:List α}(O:Own r v l) {esz:Nat}{k:IntKind} :
  ∃v',sliceVV esz v none (some (some (.int k l.length))) (some (some (.int k l.length)))=some v'∧Own r v' l:=by
 rcases Own_list.1 O with ⟨p,rfl,rfl,rfl,hp⟩ | ⟨b,off,cap,cells,el,r',rfl,⟨h1,hM⟩,h2,rfl,h4,h5⟩
 ·refine⟨.slice p 0 0,?_,Own_list.2 (.inl ⟨p,rfl,rfl,rfl,hp⟩)⟩
  simp[sliceVV,bndV]
 ·refine⟨.slice (some ⟨b,off,none⟩) l.length l.length,?_,Own_list.2 (.inr ⟨b,off,l.length,cells,el,r',rfl,⟨Nat.le_refl _,hM⟩,?_,rfl,h4,h5⟩)⟩
  ·simp[sliceVV,bndV,add_none,h1]
  ·have:l.length*Ty.sz α≤cap*Ty.sz α:=Nat.mul_le_mul_right _ h1
   omega
theorem HS.clip {α:Type} [Ty α] {g h:Heap}{Γ:List HP}{v:Value}{l:List α}(H:HS g (ow v l::Γ) h) {esz:Nat}{k:IntKind} :
  ∃v',sliceVV esz v none (some (some (.int k l.length))) (some (some (.int k l.length)))=some v'∧HS g (ow v' l::Γ) h:=by
 obtain⟨g',r,rfl,d,O,H⟩:=H
 obtain⟨v',h1,O'⟩:=O.clip (esz:=esz) (k:=k)
 exact⟨v',h1,g',r,rfl,d,O',H⟩
theorem HS.bls0 {P:Program}{k:Env→Heap→Prop}{e:Env}{g h:Heap}{Γ:List HP}(H:HS g Γ h) (α:Type) [Ty α] {esz:Nat}{zero:List Value}{dst:Nat}
  (K:∀v' h',HS g (ow v' ([]:List α)::Γ) h'→k (eset e dst (some v')) h'):(A.ex (some dst) (.bls esz 0 zero [])).wp P k e h:=by
 refine⟨[],rfl,fun b el hb=>Fgt.keep ?_⟩
 rw[set_new hb]
 exact K _ _ ⟨h,_,rfl,Dj_one.2 hb,Own_list.2 (.inr ⟨b,0,0,[],el,Heap.nil,rfl,⟨Nat.le_refl _,by simp⟩,by simp,by simp,rfl,rfl⟩),H⟩
@[simp] theorem faV_ptr {b o off:Nat}:faV off (.pointer (some ⟨b,o,none⟩))=some (.pointer (some ⟨b,o+off,none⟩)):=by simp[faV,add_none]
attribute [simp] Option.bind_some
section
variable {g h:Heap}{Γ:List HP}
theorem HS.bk5 {a b c d f f':HP}(H:HS g (f'::a::b::c::d::f::Γ) h):HS g (a::b::c::d::f::f'::Γ) h:=H.sw5.sw5.sw5.sw5.sw5
theorem HS.bk6 {a b c d f f' f2:HP}(H:HS g (f2::a::b::c::d::f::f'::Γ) h):HS g (a::b::c::d::f::f'::f2::Γ) h:=H.sw6.sw6.sw6.sw6.sw6.sw6
theorem HS.sw7 {a b c d f f' f2 f3:HP}(H:HS g (a::b::c::d::f::f'::f2::f3::Γ) h):HS g (f3::a::b::c::d::f::f'::f2::Γ) h:=(H.under fun _=>HS.sw6).sw1
theorem HS.sw8 {a b c d f f' f2 f3 f4:HP}(H:HS g (a::b::c::d::f::f'::f2::f3::f4::Γ) h):HS g (f4::a::b::c::d::f::f'::f2::f3::Γ) h:=(H.under fun _=>HS.sw7).sw1
theorem HS.sw9 {a b c d f f' f2 f3 f4 f5:HP}(H:HS g (a::b::c::d::f::f'::f2::f3::f4::f5::Γ) h):HS g (f5::a::b::c::d::f::f'::f2::f3::f4::Γ) h:=(H.under fun _=>HS.sw8).sw1
theorem HS.sw10 {a b c d f f' f2 f3 f4 f5 f6:HP}(H:HS g (a::b::c::d::f::f'::f2::f3::f4::f5::f6::Γ) h):HS g (f6::a::b::c::d::f::f'::f2::f3::f4::f5::Γ) h:=(H.under fun _=>HS.sw9).sw1
theorem HS.sw11 {a b c d f f' f2 f3 f4 f5 f6 f7:HP}(H:HS g (a::b::c::d::f::f'::f2::f3::f4::f5::f6::f7::Γ) h):HS g (f7::a::b::c::d::f::f'::f2::f3::f4::f5::f6::Γ) h:=(H.under fun _=>HS.sw10).sw1
theorem HS.rebase:∀{Δ Γ:List HP}{h:Heap},HS g (Δ++Γ) h→∃g1,HS g Γ g1∧HS g1 Δ h
 | [],_,h,H=>⟨h,H,HS.init⟩
 | _::_,_,_,⟨g',r,e,d,hp,H⟩=>by
  obtain⟨g1,h1,h2⟩:=H.rebase
  exact⟨g1,h1,g',r,e,d,hp,h2⟩
end
def mpo {κ ν:Type}(kf:κ→Value) (vf:ν→Value) (b:Nat) (l:List (κ×ν)):HP:=fun r=>∃es clock,r=Heap.one b (.map es clock)∧es.toList.map (fun e=>(e.key,e.val))=l.map fun p=>(kf p.1,vf p.2)
def mlk {κ ν:Type} [DecidableEq κ] (l:List (κ×ν)) (a:κ):Option ν:=(l.find? fun p=>decide (p.1=a)).map (·.2)
theorem mlk_nil {κ ν:Type} [DecidableEq κ] {a:κ}:mlk ([]:List (κ×ν)) a=none:=rfl
theorem mlk_snoc {κ ν:Type} [DecidableEq κ] {l:List (κ×ν)}{a b:κ}{y:ν}(hn:mlk l a=none):mlk (l++[(a,y)]) b=if a=b then some y else mlk l b:=by
 unfold mlk at hn ⊢
 rw[List.find?_append]
 by_cases h:a=b
 ·subst h
  simp at hn
  rw[if_pos rfl,List.find?_eq_none.2 (by simpa using hn)]
  simp
 ·rw[if_neg h]
  simp[h]
theorem mfind_spec {κ ν:Type} [DecidableEq κ] {kf:κ→Value}{vf:ν→Value}{kt:KT}(hkt:∀a b,keyEq kt (kf a) (kf b)=some (decide (a=b))) {a:κ}:∀{es:List MapEntry}{l:List (κ×ν)}{i0:Nat},es.map (fun e=>(e.key,e.val))=l.map (fun p=>(kf p.1,vf p.2)) →
  ∃i,mfind kt (kf a) es i0=some ((mlk l a).map fun y=>(i,vf y))
 | [],[],_,_=>⟨0,rfl⟩
 | [],_::_,_,h=>by simp at h
 | _::_,[],_,h=>by simp at h
 | x::es,p::l,i0,h=>by
  simp only[List.map_cons,List.cons.injEq,Prod.mk.injEq] at h
  obtain⟨⟨h1,h2⟩,h3⟩:=h
  obtain⟨i,hi⟩:=mfind_spec hkt (a:=a) (i0:=i0+1) h3
  unfold mfind
  rw[h1,hkt,h2]
  by_cases he:a=p.1
  ·subst he
   refine⟨i0,?_⟩
   simp[mlk]
  ·refine⟨i,?_⟩
   simp only[he,decide_false]
   rw[hi]
   simp[mlk,List.find?_cons,Ne.symm he,show ¬p.1=a from fun e=>he e.symm]
section
variable {P:Program}{k:Env→Heap→Prop}{e:Env}{g h:Heap}{Γ:List HP}{κ ν:Type} [DecidableEq κ] {kf:κ→Value}{vf:ν→Value}{b:Nat}{l:List (κ×ν)}{kt:KT}
theorem HS.mkm (H:HS g Γ h) (kf:κ→Value) (vf:ν→Value) {dst:Nat}(K:∀b h',HS g (mpo kf vf b []::Γ) h'→k (eset e dst (some (.map (some b)))) h'):(A.ex (some dst) .mkm).wp P k e h:=by
 intro b hb
 refine Fgt.keep ?_
 rw[set_new hb]
 exact K _ _ ⟨h,_,rfl,Dj_one.2 hb,⟨_,_,rfl,rfl⟩,H⟩
theorem HS.mget (H:HS g (mpo kf vf b l::Γ) h) {zero:Value}{ok:Bool}{m x:O}{a:κ}{dst:Nat}(hm:m.get e=some (.map (some b))) (hx:x.get e=some (kf a)) (hkt:∀a b,keyEq kt (kf a) (kf b)=some (decide (a=b)))
  (K:k (eset e dst (some (if ok then .tuple #[((mlk l a).map vf).getD zero,.bool (mlk l a).isSome] else ((mlk l a).map vf).getD zero))) h):(A.ex (some dst) (.mget kt zero ok m x)).wp P k e h:=by
 obtain⟨g',r,rfl,d,⟨es,clock,rfl,hes⟩,H⟩:=H
 obtain⟨i,hi⟩:=mfind_spec hkt (a:=a) (i0:=0) hes
 refine⟨b,es,clock,kf a,_,hm,le_add' d _ _ (by simp[Heap.one]),hx,by rw[hkt];rfl,hi,Fgt.keep ?_⟩
 cases hl:mlk l a with
 | none=>rw[hl] at K;cases ok<;>exact K
 | some y=>rw[hl] at K;cases ok<;>exact K
theorem HS.mput (H:HS g (mpo kf vf b l::Γ) h) {m x y:O}{a:κ}{v:ν}(hm:m.get e=some (.map (some b))) (hx:x.get e=some (kf a)) (hy:y.get e=some (vf v)) (hkt:∀a b,keyEq kt (kf a) (kf b)=some (decide (a=b))) (hn:mlk l a=none)
  (K:∀h',HS g (mpo kf vf b (l++[(a,v)])::Γ) h'→k e h'):(A.ex none (.mput kt m x y)).wp P k e h:=by
 obtain⟨g',r,rfl,d,⟨es,clock,rfl,hes⟩,H⟩:=H
 obtain⟨i,hi⟩:=mfind_spec hkt (a:=a) (i0:=0) hes
 rw[hn] at hi
 refine⟨b,es,clock,kf a,vf v,none,hm,le_add' d _ _ (by simp[Heap.one]),hx,hy,by rw[hkt];rfl,hi,Fgt.keep ?_⟩
 refine K _ ⟨g',Heap.one b (.map (es.push { key:=kf a,val:=vf v,born:=clock }) (clock+1)),?_,?_,⟨_,_,rfl,?_⟩,H⟩
 ·have hb:=Dj_one.1 d
  rw[← set_new hb]
  rw[← set_new hb]
  funext z
  simp only[Heap.set]
  split<;>rfl
 ·exact Dj_one.2 (Dj_one.1 d)
 ·simp[hes]
theorem HS.mlen (H:HS g (mpo kf vf b l::Γ) h) {m:O}{dst:Nat}(hm:m.get e=some (.map (some b))) (K:k (eset e dst (some (.int .i64 l.length))) h):(A.ex (some dst) (.mlen m)).wp P k e h:=by
 obtain⟨g',r,rfl,d,⟨es,clock,rfl,hes⟩,H⟩:=H
 have hl:es.size=l.length:=by
  have:=congrArg List.length hes
  simpa using this
 refine⟨b,es,clock,hm,le_add' d _ _ (by simp[Heap.one]),Fgt.keep ?_⟩
 rw[hl]
 exact K
end
theorem keyEq_int:∀a b:Int,keyEq (.one .i) (.int .i64 a) (.int .i64 b)=some (decide (a=b)):=by
 intro a b
 simp[keyEq,eqB]
theorem HS.blsO1 {α:Type} [Ty α] {P:Program}{k:Env→Heap→Prop}{e:Env}{g h:Heap}{Γ:List HP}{u:Value}{y:α}(H:HS g (ow u y::Γ) h) {esz:Nat}{zero:List Value}{parts:List (Nat×Nat×O)}{dst:Nat}(hf:fillP e (reps 1 zero) parts=some u.cells.toList)
  (K:∀v' h',HS g (ow v' [y]::Γ) h'→k (eset e dst (some v')) h'):(A.ex (some dst) (.bls esz 1 zero parts)).wp P k e h:=by
 obtain⟨g1,ru,rfl,d2,⟨cs,rfl,ho⟩,H⟩:=H
 have h1:=Ty.len (Ty.own_rep ho)
 rw[rep_cells (Ty.own_rep ho)] at hf
 refine⟨_,hf,fun b el hb=>Fgt.keep ?_⟩
 rw[set_new hb]
 have n1:g1 b=none∧ru b=none:=by simpa[Heap.add] using hb
 rw[add_assoc]
 refine K _ _ ⟨g1,_,rfl,Dj_add.2 ⟨d2,Dj_one.2 n1.1⟩,?_,H⟩
 rw[(Dj_one.2 n1.2).comm]
 refine Own_list.2 (.inr ⟨b,0,1,cs,el,ru,rfl,⟨Nat.le_refl _,by simp⟩,by simp[h1],rfl,n1.2,?_⟩)
 exact⟨ru,Heap.nil,by simp,by simp,by simpa[← h1] using ho,rfl⟩
theorem HS.blsO2 {α:Type} [Ty α] {P:Program}{k:Env→Heap→Prop}{e:Env}{g h:Heap}{Γ:List HP}{u u2:Value}{y y2:α}(H:HS g (ow u y::ow u2 y2::Γ) h) {esz:Nat}{zero:List Value}{parts:List (Nat×Nat×O)}{dst:Nat}(hf:fillP e (reps 2 zero) parts=some (u.cells.toList++u2.cells.toList))
  (K:∀v' h',HS g (ow v' [y,y2]::Γ) h'→k (eset e dst (some v')) h'):(A.ex (some dst) (.bls esz 2 zero parts)).wp P k e h:=by
 obtain⟨g0,ru,rfl,d2,⟨cs,rfl,ho⟩,g1,ru2,rfl,d3,⟨cs2,rfl,ho2⟩,H⟩:=H
 have h1:=Ty.len (Ty.own_rep ho)
 have h2:=Ty.len (Ty.own_rep ho2)
 rw[rep_cells (Ty.own_rep ho),rep_cells (Ty.own_rep ho2)] at hf
 obtain⟨d4,d5⟩:=add_Dj.1 d2
 refine⟨_,hf,fun b el hb=>Fgt.keep ?_⟩
 rw[set_new hb]
 have n1:(g1 b=none∧ru2 b=none)∧ru b=none:=by simpa[Heap.add] using hb
 rw[add_assoc,add_assoc]
 refine K _ _ ⟨g1,_,rfl,Dj_add.2 ⟨d3,Dj_add.2 ⟨d4,Dj_one.2 n1.1.1⟩⟩,?_,H⟩
 rw[← add_assoc,(Dj_one.2 (show (ru2.add ru) b=none by simp[Heap.add,n1])).comm]
 refine Own_list.2 (.inr ⟨b,0,2,cs++cs2,el,ru2.add ru,rfl,⟨Nat.le_refl _,by simp⟩,by simp[h1,h2];omega,rfl,by simp[Heap.add,n1],?_⟩)
 rw[d5.comm]
 refine⟨ru,ru2,rfl,d5.symm,by simpa[← h1] using ho,ru2,Heap.nil,by simp,by simp,?_,rfl⟩
 have e1:List.drop (Ty.sz α) (cs++cs2)=cs2:=by rw[← h1,List.drop_left]
 simp only[List.drop_zero]
 rw[e1,List.take_of_length_le (by omega)]
 exact ho2
section
variable {α:Type}
theorem repL_map {t t':Ty α}{h:Heap}{p:Option Addr}{l:List α}(hs:t.sz=t'.sz) (hr:∀cs x,x∈l→t.rep h cs x→t'.rep h cs x) (H:@repL α t h p l):@repL α t' h p l:=by
 intro i hi
 obtain⟨b,off,vs,h1,h2,h3⟩:=H i hi
 refine⟨b,off,vs,h1,?_,hr _ _ (List.getElem_mem hi) h3⟩
 have h2:hcells h b (off+i*t.sz) t.sz=some vs:=h2
 show hcells h b (off+i*t'.sz) t'.sz=some vs
 rw[← hs];exact h2
theorem repS_map {t t':Ty α}{h:Heap}{cs:List Value}{l:List α}(hs:t.sz=t'.sz) (hr:∀cs x,x∈l→t.rep h cs x→t'.rep h cs x) (H:@repS α t h cs l):@repS α t' h cs l:=by
 obtain⟨p,cap,h1,h2,h3,h4⟩:=H
 exact⟨p,cap,h1,h2,h3,repL_map hs hr h4⟩
theorem ownL_map {t t':Ty α}(hs:t.sz=t'.sz):∀{l:List α}{cs:List Value}{r:Heap},(∀r cs x,x∈l→t.own r cs x→t'.own r cs x)→@ownL α t l cs r→@ownL α t' l cs r
 | [],_,_,_,H=>H
 | x::l,cs,r,ho,⟨r1,r2,h1,h2,h3,h4⟩=>by
  refine⟨r1,r2,h1,h2,?_,?_⟩
  ·have:=ho r1 _ x (by simp) h3
   show t'.own r1 (cs.take t'.sz) x
   rw[← hs];exact this
  ·have:=ownL_map hs (fun r cs x hx=>ho r cs x (by simp[hx])) h4
   show @ownL α t' l (cs.drop t'.sz) r2
   rw[← hs];exact this
theorem ownS_map {t t':Ty α}(hs:t.sz=t'.sz) {l:List α}{cs:List Value}{r:Heap}(ho:∀r cs x,x∈l→t.own r cs x→t'.own r cs x) (H:@ownS α t r cs l):@ownS α t' r cs l:=by
 rcases H with h1 | ⟨b,off,cap,cells,el,r',h1,h2,h3,h4,h5,h6⟩
 ·exact .inl h1
 ·refine .inr ⟨b,off,cap,cells,el,r',h1,h2,?_,h4,h5,ownL_map hs ho h6⟩
  have h3:off+cap*t.sz≤cells.length:=h3
  show off+cap*t'.sz≤cells.length
  rw[← hs];exact h3
end
theorem exists_max {P:Nat→Nat→Prop}(hu:∀i n,P i n→P i (n+1)):∀m,(∀i,i<m→∃n,P i n)→∃N,∀i,i<m→P i N
 | 0,_=>⟨0,fun i hi=>absurd hi (Nat.not_lt_zero i)⟩
 | m+1,h=>by
  have up:∀i n k,P i n→P i (n+k):=by
   intro i n k hp
   induction k with
   | zero=>exact hp
   | succ k ih=>exact hu _ _ ih
  obtain⟨N,hN⟩:=exists_max hu m fun i hi=>h i (by omega)
  obtain⟨M,hM⟩:=h m (by omega)
  refine⟨N+M,fun i hi=>?_⟩
  by_cases e:i=m
  ·subst e;rw[Nat.add_comm];exact up _ _ _ hM
  ·exact up _ _ _ (hN i (by omega))
inductive Exq where
 | mk (kind val:Int) (kids:List Exq)
namespace Exq
def kind:Exq→Int | .mk k _ _=>k
def val:Exq→Int | .mk _ v _=>v
def kids:Exq→List Exq | .mk _ _ l=>l
@[simp] theorem kind_mk {k v:Int}{l:List Exq}:(Exq.mk k v l).kind=k:=rfl
@[simp] theorem val_mk {k v:Int}{l:List Exq}:(Exq.mk k v l).val=v:=rfl
@[simp] theorem kids_mk {k v:Int}{l:List Exq}:(Exq.mk k v l).kids=l:=rfl
theorem ext_iff' {a b:Exq}:a=b↔a.kind=b.kind∧a.val=b.val∧a.kids=b.kids:=by
 cases a;cases b;simp
theorem ind {p:Exq→Prop}(h:∀x:Exq,(∀y∈x.kids,p y)→p x):∀x,p x
 | .mk k v l=>h _ fun y hy=>ind h y
termination_by x=>SizeOf.sizeOf x
decreasing_by
 have h1:y∈l:=hy
 have:=List.sizeOf_lt_of_mem h1
 simp only[Exq.mk.sizeOf_spec]
 omega
def tup (x:Exq):Int×Int×List Exq:=(x.kind,x.val,x.kids)
@[reducible] def T0:Ty Exq where
 agg:=true
 sz:=3
 rep:=fun _ _ _=>False
 own:=fun _ _ _=>False
 one:=fun h=>by simp at h
 len:=fun h=>h.elim
 cell:=fun h=>h.elim
 mono:=fun _ h=>h
 own_rep:=fun h=>h.elim
@[reducible] def tyTup (t:Ty Exq):Ty (Int×Int×List Exq):=@instTyProd Int (Int×List Exq) instTyInt (@instTyProd Int (List Exq) instTyInt (@instTyList Exq t))
@[reducible] def T:Nat→Ty Exq
 | 0=>T0
 | n+1=>@Ty.via Exq (Int×Int×List Exq) (tyTup (T n)) tup
theorem T_sz:∀n,(T n).sz=3
 | 0=>rfl
 | _+1=>rfl
theorem tup_rep {t t':Ty Exq}(hs:t.sz=t'.sz) {h:Heap}{cs:List Value}{x:Exq}(hr:∀cs y,y∈x.kids→t.rep h cs y→t'.rep h cs y) (H:(tyTup t).rep h cs x.tup):(tyTup t').rep h cs x.tup:=by
 obtain⟨c1,c2,e1,h1,c3,c4,e2,h2,h3⟩:=H
 exact⟨c1,c2,e1,h1,c3,c4,e2,h2,repS_map hs hr h3⟩
theorem tup_own {t t':Ty Exq}(hs:t.sz=t'.sz) {r:Heap}{cs:List Value}{x:Exq}(hr:∀r cs y,y∈x.kids→t.own r cs y→t'.own r cs y) (H:(tyTup t).own r cs x.tup):(tyTup t').own r cs x.tup:=by
 obtain⟨c1,c2,r1,r2,e1,e2,d1,h1,c3,c4,r3,r4,e3,e4,d2,h2,h3⟩:=H
 exact⟨c1,c2,r1,r2,e1,e2,d1,h1,c3,c4,r3,r4,e3,e4,d2,h2,ownS_map hs hr h3⟩
theorem rep_up:∀(n:Nat) {h:Heap}{cs:List Value}{x:Exq},(T n).rep h cs x→(T (n+1)).rep h cs x
 | 0,_,_,_,H=>H.elim
 | n+1,h,cs,x,H=>tup_rep (t:=T n) (t':=T (n+1)) (by rw[T_sz,T_sz]) (fun _ _ _=>rep_up n) H
theorem own_up:∀(n:Nat) {r:Heap}{cs:List Value}{x:Exq},(T n).own r cs x→(T (n+1)).own r cs x
 | 0,_,_,_,H=>H.elim
 | n+1,h,cs,x,H=>tup_own (t:=T n) (t':=T (n+1)) (by rw[T_sz,T_sz]) (fun _ _ _ _=>own_up n) H
theorem own_le {n m:Nat}(hle:n≤m) {r:Heap}{cs:List Value}{x:Exq}(H:(T n).own r cs x):(T m).own r cs x:=by
 obtain⟨k,rfl⟩:=Nat.exists_eq_add_of_le hle
 induction k with
 | zero=>exact H
 | succ k ih=>exact own_up _ (ih (by omega))
end Exq
instance instTyExq:Ty Exq where
 agg:=true
 sz:=3
 rep:=fun h cs x=>∃n,(Exq.T n).rep h cs x
 own:=fun r cs x=>∃n,(Exq.T n).own r cs x
 one:=fun h=>by simp at h
 len:=fun ⟨n,h⟩=>((Exq.T n).len h).trans (Exq.T_sz n)
 cell:=fun ⟨n,h⟩=>(Exq.T n).cell h
 mono:=fun hl ⟨n,h⟩=>⟨n,(Exq.T n).mono hl h⟩
 own_rep:=fun ⟨n,h⟩=>⟨n,(Exq.T n).own_rep h⟩
namespace Exq
theorem rep_iff {h:Heap}{cs:List Value}{x:Exq}:Ty.rep h cs x↔Ty.rep h cs x.tup:=by
 constructor
 ·rintro⟨n,H⟩
  cases n with
  | zero=>exact H.elim
  | succ n=>exact tup_rep (t:=T n) (t':=instTyExq) (T_sz n) (fun _ _ _ h=>⟨n,h⟩) H
 ·rintro⟨c1,c2,e1,h1,c3,c4,e2,h2,p,cap,e3,h3,h4,hl⟩
  have hl:∀i,i<x.kids.length→∃n,∃(hi:i<x.kids.length),∃b off vs,p=some ⟨b,off,none⟩∧hcells h b (off+i*3) 3=some vs∧(T n).rep h vs x.kids[i]:=by
   intro i hi
   obtain⟨b,off,vs,g1,g2,n,g3⟩:=hl i hi
   exact⟨n,hi,b,off,vs,g1,g2,g3⟩
  obtain⟨N,hN⟩:=exists_max (P:=fun i n=>∃(hi:i<x.kids.length),∃b off vs,p=some ⟨b,off,none⟩∧hcells h b (off+i*3) 3=some vs∧(T n).rep h vs x.kids[i]) (fun i n ⟨hi,b,off,vs,g1,g2,g3⟩=>⟨hi,b,off,vs,g1,g2,rep_up n g3⟩) _ hl
  refine⟨N+1,c1,c2,e1,h1,c3,c4,e2,h2,p,cap,e3,h3,h4,fun i hi=>?_⟩
  obtain⟨_,b,off,vs,g1,g2,g3⟩:=hN i hi
  refine⟨b,off,vs,g1,?_,g3⟩
  show hcells h b (off+i*(T N).sz) (T N).sz=some vs
  rw[T_sz];exact g2
theorem ownL_max:∀{l:List Exq}{cs:List Value}{r:Heap},ownL l cs r→∃N,@ownL Exq (T N) l cs r
 | [],_,_,H=>⟨0,H⟩
 | x::l,cs,r,⟨r1,r2,h1,h2,⟨n,h3⟩,h4⟩=>by
  obtain⟨N,h5⟩:=ownL_max h4
  refine⟨n+N,r1,r2,h1,h2,?_,?_⟩
  ·show (T (n+N)).own r1 (cs.take (T (n+N)).sz) x
   rw[T_sz];exact own_le (by omega) h3
  ·show @ownL Exq (T (n+N)) l (cs.drop (T (n+N)).sz) r2
   rw[T_sz];exact ownL_map (t:=T N) (t':=T (n+N)) (by rw[T_sz,T_sz]) (fun _ _ _ _=>own_le (by omega)) h5
theorem own_iff {r:Heap}{cs:List Value}{x:Exq}:Ty.own r cs x↔Ty.own r cs x.tup:=by
 constructor
 ·rintro⟨n,H⟩
  cases n with
  | zero=>exact H.elim
  | succ n=>exact tup_own (t:=T n) (t':=instTyExq) (T_sz n) (fun _ _ _ _ h=>⟨n,h⟩) H
 ·rintro⟨c1,c2,r1,r2,e1,e2,d1,h1,c3,c4,r3,r4,e3,e4,d2,h2,h3⟩
  rcases h3 with h3 | ⟨b,off,cap,cells,el,r',g1,g2,g3,g4,g5,g6⟩
  ·exact⟨1,c1,c2,r1,r2,e1,e2,d1,h1,c3,c4,r3,r4,e3,e4,d2,h2,.inl h3⟩
  ·obtain⟨N,h7⟩:=ownL_max g6
   refine⟨N+1,c1,c2,r1,r2,e1,e2,d1,h1,c3,c4,r3,r4,e3,e4,d2,h2,.inr ⟨b,off,cap,cells,el,r',g1,g2,?_,g4,g5,h7⟩⟩
   show off+cap*(T N).sz≤cells.length
   rw[T_sz];exact g3
end Exq
def I64 (n:Int):Prop:=-9223372036854775808≤n∧n<9223372036854775808
theorem I64.lo {n:Int}(h:I64 n):-9223372036854775808≤n:=h.1
theorem I64.hi {n:Int}(h:I64 n):n<9223372036854775808:=h.2
section
variable {g h r:Heap}{Γ:List HP}{v:Value}{cs:List Value}
theorem repExq {x:Exq}:Ty.rep h cs x↔∃w,cs=[.int .i64 x.kind,.int .i64 x.val,w]∧I64 x.kind∧I64 x.val∧Rep h w x.kids:=by
 rw[Exq.rep_iff]
 constructor
 ·rintro⟨c1,c2,rfl,⟨rfl,h1⟩,c3,c4,rfl,⟨rfl,h2⟩,h3⟩
  obtain⟨w,rfl,h4⟩:=(rep1 (α:=List Exq) rfl).1 h3
  exact⟨w,rfl,h1,h2,h4⟩
 ·rintro⟨w,rfl,h1,h2,h3⟩
  exact⟨[_],[_,_],rfl,⟨rfl,h1⟩,[_],[_],rfl,⟨rfl,h2⟩,(rep1 (α:=List Exq) rfl).2 ⟨w,rfl,h3⟩⟩
theorem ownExq {x:Exq}:Ty.own r cs x↔∃w,cs=[.int .i64 x.kind,.int .i64 x.val,w]∧I64 x.kind∧I64 x.val∧Own r w x.kids:=by
 rw[Exq.own_iff]
 constructor
 ·rintro⟨c1,c2,r1,r2,rfl,rfl,d1,⟨rfl,rfl,h1⟩,c3,c4,r3,r4,rfl,rfl,d2,⟨rfl,rfl,h2⟩,h3⟩
  obtain⟨w,rfl,h4⟩:=(own1 (α:=List Exq) rfl).1 h3
  exact⟨w,rfl,h1,h2,by rw[nil_add,nil_add];exact h4⟩
 ·rintro⟨w,rfl,h1,h2,h3⟩
  exact⟨[_],[_,_],Heap.nil,r,rfl,by simp,by simp,⟨rfl,rfl,h1⟩,[_],[_],Heap.nil,r,rfl,by simp,by simp,⟨rfl,rfl,h2⟩,(own1 (α:=List Exq) rfl).2 ⟨w,rfl,h3⟩⟩
theorem Rep_Exq {x:Exq}:Rep h v x↔∃w,v=.agg #[.int .i64 x.kind,.int .i64 x.val,w]∧I64 x.kind∧I64 x.val∧Rep h w x.kids:=by
 constructor
 ·rintro⟨cs,rfl,H⟩
  obtain⟨w,rfl,h1⟩:=repExq.1 H
  exact⟨w,rfl,h1⟩
 ·rintro⟨w,rfl,h1⟩
  exact⟨_,rfl,repExq.2 ⟨w,rfl,h1⟩⟩
theorem HS.unExq {x:Exq}(H:HS g (ow v x::Γ) h):∃w,v=.agg #[.int .i64 x.kind,.int .i64 x.val,w]∧I64 x.kind∧I64 x.val∧HS g (ow w x.kids::Γ) h:=by
 obtain⟨g',r,rfl,d,⟨cs,rfl,O⟩,H⟩:=H
 obtain⟨w,rfl,h1,h2,h3⟩:=ownExq.1 O
 exact⟨w,rfl,h1,h2,g',r,rfl,d,h3,H⟩
theorem HS.mkExq {x:Exq}{w:Value}(H:HS g (ow w x.kids::Γ) h) (h1:I64 x.kind) (h2:I64 x.val):HS g (ow (.agg #[.int .i64 x.kind,.int .i64 x.val,w]) x::Γ) h:=
 H.imp fun _ O=>⟨_,rfl,ownExq.2 ⟨w,rfl,h1,h2,O⟩⟩
theorem HS.mkExq' {kd vl:Int}{l:List Exq}{w:Value}(H:HS g (ow w l::Γ) h) (h1:I64 kd) (h2:I64 vl):HS g (ow (.agg #[.int .i64 kd,.int .i64 vl,w]) (Exq.mk kd vl l)::Γ) h:=
 HS.mkExq (x:=Exq.mk kd vl l) H h1 h2
theorem Rep.aExq {x:Exq}(hr:Rep h v x):pgetV (some v) 0 (some 3)=some v∧v.cells.size=3∧allOne v.cells.toList=true∧Value.agg v.cells=v:=hr.A rfl rfl
end
noncomputable instance:DecidableEq Exq:=fun _ _=>Classical.propDecidable _
structure Ed where
 frm:Int
 to:Int
 guard:Exq
 var:Int
 value:Exq
 sync:Int
instance instTyEd:Ty Ed:=Ty.via fun (e:Ed)=>(e.frm,e.to,e.guard,e.var,e.value,e.sync)
noncomputable instance:DecidableEq Ed:=fun _ _=>Classical.propDecidable _
structure Pr where
 locs:Int
 edges:List Ed
instance instTyPr:Ty Pr:=Ty.via fun (p:Pr)=>(p.locs,p.edges)
noncomputable instance:DecidableEq Pr:=fun _ _=>Classical.propDecidable _
structure Sy where
 init:List Int
 procs:List Pr
instance instTySy:Ty Sy:=Ty.via fun (s:Sy)=>(s.init,s.procs)
noncomputable instance:DecidableEq Sy:=fun _ _=>Classical.propDecidable _
theorem Ed.ext_iff' {a b:Ed}:a=b↔a.frm=b.frm∧a.to=b.to∧a.guard=b.guard∧a.var=b.var∧a.value=b.value∧a.sync=b.sync:=by
 cases a;cases b;simp
theorem Pr.ext_iff' {a b:Pr}:a=b↔a.locs=b.locs∧a.edges=b.edges:=by
 cases a;cases b;simp
theorem Sy.ext_iff' {a b:Sy}:a=b↔a.init=b.init∧a.procs=b.procs:=by
 cases a;cases b;simp
def Ed.cs (e:Ed) (w1 w2:Value):List Value:=[.int .i64 e.frm,.int .i64 e.to,.int .i64 e.guard.kind,.int .i64 e.guard.val,w1,.int .i64 e.var,.int .i64 e.value.kind,.int .i64 e.value.val,w2,.int .i64 e.sync]
structure Ed.ok (e:Ed):Prop where
 frm:I64 e.frm
 to:I64 e.to
 gk:I64 e.guard.kind
 gv:I64 e.guard.val
 var:I64 e.var
 vk:I64 e.value.kind
 vv:I64 e.value.val
 sync:I64 e.sync
section
variable {g h r:Heap}{Γ:List HP}{v:Value}{cs:List Value}
end
section
variable {α:Type} [Ty α] {P:Program}{k:Env→Heap→Prop}{e:Env}{g h:Heap}{Γ:List HP}{v w:Value}{l:List α}{i:Nat}{cs:List Value}
theorem hld_parts {n:Nat}(hv:hload h (some (elp n v i)) (some n)=some (.agg cs.toArray)):(∀fo,faV fo (elp n v i)=some (elpo n v i fo))∧(∀a b,faV b (elpo n v i a)=some (elpo n v i (a+b))) ∧
  (∀fo,fo<n→hload h (some (elpo n v i fo)) none=cs[fo]?)∧(∀fo m,fo+m≤n→hload h (some (elpo n v i fo)) (some m)=some (.agg ((cs.drop fo).take m).toArray)):=by
 unfold elp at hv
 split at hv
 case h_2=>simp[undef,hload] at hv
 case h_1 p c d=>
  have hz:∃b off,p.add (i*n)=⟨b,off,none⟩:=by
   generalize hq:p.add (i*n)=q at hv
   obtain⟨b,off,sp⟩:=q
   cases sp with
   | none=>exact⟨b,off,rfl⟩
   | some s=>simp[hload] at hv
  obtain⟨b,off,hz⟩:=hz
  rw[hz] at hv
  simp only[hload,Option.map_eq_some_iff] at hv
  obtain⟨l,h1,h2⟩:=hv
  have h2:l=cs:=by simpa using h2
  subst h2
  have h3:=hcells_get h1
  have hsub:∀m fo,fo+m≤n→hcells h b (off+fo) m=some ((l.drop fo).take m):=by
   intro m
   induction m with
   | zero=>intro fo _;simp[hcells]
   | succ m ih=>
    intro fo hf
    have h4:=ih (fo+1) (by omega)
    have h5:=h3.2 fo (l[fo]'(by rw[h3.1];omega)) (List.getElem?_eq_getElem _)
    simp only[hcells,h5]
    rw[show off+fo+1=off+(fo+1) by omega,h4]
    simp only[Option.some.injEq]
    rw[List.drop_eq_getElem_cons (by rw[h3.1];omega:fo<l.length),List.take_succ_cons]
  refine⟨fun fo=>?_,fun a c=>?_,fun fo hf=>?_,fun fo m hf=>?_⟩
  ·simp only[elp,elpo,hz,add_none,faV]
  ·simp only[elpo,hz,add_none,faV]
   simp[Nat.add_assoc]
  ·have h5:=h3.2 fo (l[fo]'(by rw[h3.1];omega)) (List.getElem?_eq_getElem _)
   simp only[elpo,hz,add_none,hload,h5]
   exact (List.getElem?_eq_getElem _).symm
  ·simp only[elpo,hz,add_none,hload,hsub m fo hf]
   rfl
end
inductive Mix (α:Type) where
 | raw (cs:List Value)
 | new (x:α)
section
variable {α:Type} [Ty α]
def Mix.rep (h:Heap) (cs:List Value):Mix α→Prop
 | .raw c=>cs=c∧c.length=Ty.sz α∧∀v∈c,v.oneCell'=true
 | .new x=>Ty.rep h cs x
def Mix.own (r:Heap) (cs:List Value):Mix α→Prop
 | .raw c=>r=Heap.nil∧cs=c∧c.length=Ty.sz α∧∀v∈c,v.oneCell'=true
 | .new x=>Ty.own r cs x
instance instTyMix:Ty (Mix α) where
 agg:=Ty.agg α
 sz:=Ty.sz α
 rep:=Mix.rep
 own:=Mix.own
 one:=Ty.one
 len:=by
  intro h cs x hx
  cases x with
  | raw c=>obtain⟨rfl,h1,_⟩:=hx;exact h1
  | new x=>exact Ty.len (x:=x) hx
 cell:=by
  intro h cs x hx
  cases x with
  | raw c=>obtain⟨rfl,_,h1⟩:=hx;exact h1
  | new x=>exact Ty.cell (x:=x) hx
 mono:=by
  intro h h' cs x hl hx
  cases x with
  | raw c=>exact hx
  | new x=>exact Ty.mono (x:=x) hl hx
 own_rep:=by
  intro r cs x hx
  cases x with
  | raw c=>exact hx.2
  | new x=>exact Ty.own_rep (x:=x) hx
theorem ownL_new:∀{l:List α}{cs:List Value}{r:Heap},ownL (l.map Mix.new) cs r→ownL l cs r
 | [],_,_,H=>H
 | x::l,cs,r,⟨r1,r2,h1,h2,h3,h4⟩=>⟨r1,r2,h1,h2,h3,ownL_new h4⟩
theorem HS.mixed {g h:Heap}{Γ:List HP}{v:Value}{l:List α}(H:HS g (ow v (l.map Mix.new)::Γ) h):HS g (ow v l::Γ) h:=by
 refine H.imp fun r O=>?_
 have O:Own r v (l.map (Mix.new (α:=α))):=O
 rcases Own_list.1 O with ⟨p,rfl,h1,h2,h3⟩ | ⟨b,off,cap,cells,el,r',rfl,h1,h2,h3,h4,h5⟩
 ·exact Own_list.2 (.inl ⟨p,rfl,by simpa using h1,h2,h3⟩)
 ·exact Own_list.2 (.inr ⟨b,off,cap,cells,el,r',by simp,by simpa using h1,h2,h3,h4,ownL_new h5⟩)
theorem HS.newO {g h:Heap}{Γ:List HP}{v:Value}{x:α}(H:HS g (ow v x::Γ) h):HS g (ow v (Mix.new x)::Γ) h:=H.imp fun _ O=>O
structure Raws (h:Heap) (l:List α) (M:List (Mix α)):Prop where
 len:M.length=l.length
 at':∀(i:Nat) (hi:i<l.length),∃c,M[i]? = some (.raw c)∧Ty.rep h c l[i]
theorem Rep.srcR {h:Heap}{v:Value}{l:List α}(hr:Rep h v l):∃(M:List (Mix α)) (cs:List Value),Raws h l M∧srcV h (Ty.sz α) (some v)=some (l.length,cs)∧cs.length=l.length*Ty.sz α∧ownL M cs Heap.nil:=by
 obtain⟨p,cap,rfl,h1,h2,h3⟩:=Rep_list.1 hr
 cases hl:l with
 | nil=>subst hl;exact⟨[],[],⟨rfl,fun i hi=>absurd hi (Nat.not_lt_zero i)⟩,rfl,by simp,rfl⟩
 | cons y l'=>
  rw[← hl]
  obtain⟨b,off,vs,rfl,_⟩:=h3 0 (by rw[hl];simp)
  have key:∀n,n≤l.length→∃(M:List (Mix α)) (cs:List Value),M.length=n∧(∀(i:Nat) (hi:i<l.length),i<n→∃c,M[i]? = some (.raw c)∧Ty.rep h c l[i])∧hcells h b off (n*Ty.sz α)=some cs∧cs.length=n*Ty.sz α∧ownL M cs Heap.nil:=by
   intro n
   induction n with
   | zero=>intro _;exact⟨[],[],rfl,fun i _ hi=>absurd hi (Nat.not_lt_zero i),by simp[hcells],by simp,rfl⟩
   | succ n ih=>
    intro hn
    obtain⟨M,cs,g1,g2,g3,g4,g5⟩:=ih (by omega)
    obtain⟨b',off',vs,e1,e2,e3⟩:=h3 n (by omega)
    simp only[Option.some.injEq,Addr.mk.injEq] at e1
    obtain⟨rfl,rfl,_⟩:=e1
    have hlen:=Ty.len e3
    refine⟨M++[.raw vs],cs++vs,by simp[g1],?_,?_,?_,?_⟩
    ·intro i hi hin
     by_cases hh:i<n
     ·obtain⟨c,f1,f2⟩:=g2 i hi hh
      exact⟨c,by rw[List.getElem?_append_left (by omega)];exact f1,f2⟩
     ·obtain rfl:i=n:=by omega
      exact⟨vs,by rw[← g1,List.getElem?_append_right (Nat.le_refl _)];simp,e3⟩
    ·rw[show (n+1)*Ty.sz α=n*Ty.sz α+Ty.sz α by rw[Nat.add_mul];omega]
     exact hcells_add g3 e2
    ·rw[List.length_append,g4,hlen,Nat.add_mul];omega
    ·have:=ownL_append (l2:=[Mix.raw vs]) (cs2:=vs) (r2:=Heap.nil) g5 (by rw[g4,g1];rfl) ⟨Heap.nil,Heap.nil,by simp,by simp,⟨rfl,?_,hlen,Ty.cell e3⟩,rfl⟩ (by simp)
     ·simpa using this
     ·show List.take (Ty.sz α) vs=vs
      rw[List.take_of_length_le (by omega)]
  obtain⟨M,cs,g1,g2,g3,g4,g5⟩:=key l.length (Nat.le_refl _)
  exact⟨M,cs,⟨g1,fun i hi=>g2 i hi hi⟩,srcV_slice g3,g4,g5⟩
theorem HS.appPLr {P:Program}{k:Env→Heap→Prop}{e:Env}{g h:Heap}{Γ:List HP}{u:Value}{l2:List α}(H:HS g Γ h) {bytes esz:Nat}{zero:List Value}{j:Nat}{x:O}{dst:Nat}{c0:Array Value}(hp:eget e j=some (.agg c0)) (hx:x.get e=some u) (hr:Rep h u l2) (hsz:esz=Ty.sz α) (hz:zero.length=Ty.sz α) (hb:l2.length*bytes≤140737488355328)
  (K:∀v' h' (M:List (Mix α)),Raws h l2 M→HS g (ow v' M::Γ) h'→k (eset e dst (some v')) h'):(A.ex (some dst) (.app bytes esz zero (.p 0 j) (.o x))).wp P k e h:=by
 subst hsz
 obtain⟨M,cs,hM,h1,h2,h3⟩:=hr.srcR
 have hl:=hM.len
 refine a_appP (α:=Mix α) (rs:=Heap.nil) (l2:=M) hp ?_ (by rw[hl];exact h2) h3 Dj_nil (by simp) hz (by rw[hl];exact hb) (by have:=hr.lt;omega) fun v' r' d' O'=>K _ _ M hM ⟨h,r',rfl,d',O',H⟩
 simp only[AO.src,hx,hl]
 exact h1
end
structure Mixed {α:Type} [Ty α] (h:Heap) (l:List α) (f:α→α) (M:List (Mix α)) (i:Nat):Prop where
 len:M.length=l.length
 done:M.take i=((l.map f).take i).map Mix.new
 rest:∀(j:Nat) (hj:j<l.length),i≤j→∃c,M[j]? = some (.raw c)∧Ty.rep h c l[j]
section
variable {α:Type} [Ty α] {h:Heap}{l:List α}{f:α→α}{M:List (Mix α)}{i:Nat}
theorem Mixed.zero (R:Raws h l M):Mixed h l f M 0:=⟨R.len,rfl,fun j hj _=>R.at' j hj⟩
theorem Mixed.le {h':Heap}(H:Mixed h l f M i) (hl:h.le h'):Mixed h' l f M i:=⟨H.len,H.done,fun j hj hij=>by
 obtain⟨c,h1,h2⟩:=H.rest j hj hij
 exact⟨c,h1,Ty.mono hl h2⟩⟩
theorem Mixed.get (H:Mixed h l f M i) (hi:i<l.length):∃c,M[i]'(by rw[H.len];exact hi)=.raw c∧Ty.rep h c l[i]:=by
 obtain⟨c,h1,h2⟩:=H.rest i hi (Nat.le_refl i)
 refine⟨c,?_,h2⟩
 rw[List.getElem?_eq_getElem (by rw[H.len];exact hi)] at h1
 exact Option.some.inj h1
theorem Mixed.step (H:Mixed h l f M i) (hi:i<l.length):Mixed h l f (M.set i (.new (f l[i]))) (i+1):=by
 refine⟨by simp[H.len],?_,fun j hj hij=>?_⟩
 ·have h1:M.take i=(l.map fun x=>Mix.new (f x)).take i:=by rw[H.done,List.map_take,List.map_map];rfl
  have:=take_set_succ (x:=l.map fun x=>Mix.new (f x)) h1 (by simpa using hi) (by simp[H.len])
  rw[List.getElem_map] at this
  rw[this,List.map_take,List.map_map]
  rfl
 ·rw[List.getElem?_set_ne (by omega)]
  exact H.rest j hj (by omega)
theorem Mixed.all (H:Mixed h l f M i) (hi:l.length≤i):M=(l.map f).map Mix.new:=by
 have:=H.done
 rw[List.take_of_length_le (by rw[H.len];exact hi),List.take_of_length_le (by simpa using hi)] at this
 exact this
end
mutual
def Exq.size:Exq→Nat
 | .mk _ _ l=>Exq.sizes l
def Exq.sizes:List Exq→Nat
 | []=>0
 | x::l=>1+x.size+Exq.sizes l
end
instance instSzExq:Sz Exq:=⟨Exq.size⟩
theorem Exq.sizes_eq:∀l,Exq.sizes l=Sz.sz l
 | []=>by simp[Exq.sizes,sz_list,szL]
 | x::l=>by
  have:=Exq.sizes_eq l
  rw[sz_list] at this ⊢
  simp only[Exq.sizes,szL,List.length_cons,this]
  show 1+Sz.sz x+_=_
  omega
theorem sz_Exq (x:Exq):Sz.sz x=Sz.sz x.kids:=by
 cases x with
 | mk k v l=>exact Exq.sizes_eq l
instance instSzEd:Sz Ed:=⟨fun e=>Sz.sz e.guard+Sz.sz e.value⟩
instance instSzPr:Sz Pr:=⟨fun p=>Sz.sz p.edges⟩
instance instSzSy:Sz Sy:=⟨fun s=>Sz.sz s.init+Sz.sz s.procs⟩
mutual
def Exq.cnt:Exq→Nat
 | .mk _ _ l=>2+Exq.cnts l
def Exq.cnts:List Exq→Nat
 | []=>0
 | x::l=>x.cnt+Exq.cnts l
end
mutual
def Exq.wr:Int→Exq→Exq
 | k,.mk _ _ l=>.mk k (k+1) (Exq.wrs (k+2) l)
def Exq.wrs:Int→List Exq→List Exq
 | _,[]=>[]
 | k,x::l=>x.wr k::Exq.wrs (k+x.cnt) l
end
mutual
theorem Exq.cnt_wr:∀(k:Int) (x:Exq),(Exq.wr k x).cnt=x.cnt
 | k,.mk _ _ l=>by simp only[Exq.wr,Exq.cnt,Exq.cnts_wrs (k+2) l]
theorem Exq.cnts_wrs:∀(k:Int) (l:List Exq),Exq.cnts (Exq.wrs k l)=Exq.cnts l
 | _,[]=>rfl
 | k,x::l=>by simp only[Exq.wrs,Exq.cnts,Exq.cnt_wr k x,Exq.cnts_wrs (k+x.cnt) l]
end
mutual
theorem Exq.wr_wr:∀(k j:Int) (x:Exq),Exq.wr k (Exq.wr j x)=Exq.wr k x
 | k,j,.mk _ _ l=>by simp only[Exq.wr,Exq.wrs_wrs (k+2) (j+2) l]
theorem Exq.wrs_wrs:∀(k j:Int) (l:List Exq),Exq.wrs k (Exq.wrs j l)=Exq.wrs k l
 | _,_,[]=>rfl
 | k,j,x::l=>by simp only[Exq.wrs,Exq.cnt_wr j x,Exq.wr_wr k j x,Exq.wrs_wrs (k+x.cnt) (j+x.cnt) l]
end
instance instMkExq:Mk Exq:=⟨Exq.cnt,Exq.wr,Exq.cnt_wr,Exq.wr_wr⟩
instance instMkEd:Mk Ed:=⟨fun e=>Mk.cnt e.frm+Mk.cnt e.to+Mk.cnt e.guard+Mk.cnt e.var+Mk.cnt e.value+Mk.cnt e.sync,
 fun k e=>⟨Mk.wr k e.frm,Mk.wr (k+Mk.cnt e.frm) e.to,Mk.wr (k+Mk.cnt e.frm+Mk.cnt e.to) e.guard,Mk.wr (k+Mk.cnt e.frm+Mk.cnt e.to+Mk.cnt e.guard) e.var,
  Mk.wr (k+Mk.cnt e.frm+Mk.cnt e.to+Mk.cnt e.guard+Mk.cnt e.var) e.value,Mk.wr (k+Mk.cnt e.frm+Mk.cnt e.to+Mk.cnt e.guard+Mk.cnt e.var+Mk.cnt e.value) e.sync⟩,
 fun k a=>by simp[Mk.cnt_wr],fun k j a=>by simp[Mk.cnt_wr,Mk.wr_wr]⟩
instance instMkPr:Mk Pr:=⟨fun p=>Mk.cnt p.locs+Mk.cnt p.edges,fun k p=>⟨Mk.wr k p.locs,Mk.wr (k+Mk.cnt p.locs) p.edges⟩,fun k a=>by simp[Mk.cnt_wr],fun k j a=>by simp[Mk.cnt_wr,Mk.wr_wr]⟩
instance instMkSy:Mk Sy:=⟨fun p=>Mk.cnt p.init+Mk.cnt p.procs,fun k p=>⟨Mk.wr k p.init,Mk.wr (k+Mk.cnt p.init) p.procs⟩,fun k a=>by simp[Mk.cnt_wr],fun k j a=>by simp[Mk.cnt_wr,Mk.wr_wr]⟩
theorem foldl_tk {α β:Type}{f:β→α→β}{b:β}{l:List α}{i:Nat}(hi:i<l.length):(l.take (i+1)).foldl f b=f ((l.take i).foldl f b) l[i]:=by
 rw[List.take_add_one,List.getElem?_eq_getElem hi,List.foldl_append];rfl
def VOk (vs:List Int):Prop:=vs.length=3∧∀x∈vs,0≤x∧x≤3
theorem VOk.len {vs:List Int}(h:VOk vs):vs.length=3:=h.1
theorem VOk.at {vs:List Int}(h:VOk vs) {i:Nat}(hi:i<vs.length):0≤vs[i]∧vs[i]≤3:=h.2 _ (List.getElem_mem hi)
noncomputable instance {vs:List Int}:Decidable (VOk vs):=Classical.propDecidable _
namespace Exq
def arity (k:Int):Int:=if k=1∨k=2 then 0 else if k=3 then 1 else if 4≤k∧k≤9 then 2 else -1
def most (k:Int):Int:=if k=1 then 3 else if k=2 then 2 else 0
structure Nd (x:Exq):Prop where
 ar:(x.kids.length:Int)=arity x.kind
 lo:0≤x.val
 hi:x.val≤most x.kind
def Shp:Nat→Exq→Prop
 | 0,_=>False
 | n+1,x=>x.Nd∧∀y∈x.kids,Shp n y
mutual
def nod:Exq→Nat
 | .mk _ _ l=>1+nods l
def nods:List Exq→Nat
 | []=>0
 | x::l=>x.nod+nods l
end
theorem nod_eq (x:Exq):x.nod=1+nods x.kids:=by cases x;rfl
theorem nods_take:∀{l:List Exq}{i:Nat}(hi:i<l.length),nods (l.take (i+1))=nods (l.take i)+l[i].nod
 | x::l,0,_=>by simp[nods]
 | x::l,i+1,hi=>by
  have:=nods_take (l:=l) (i:=i) (by simpa using hi)
  simp only[List.take_succ_cons,nods,List.getElem_cons_succ,this];omega
theorem nods_le:∀(l:List Exq) (i:Nat),nods (l.take i)≤nods l
 | [],i=>by simp
 | x::l,0=>by simp[nods]
 | x::l,i+1=>by
  simp only[List.take_succ_cons,nods]
  have:=nods_le l i
  omega
def Ok (x:Exq):Prop:=x.Shp 6∧x.nod≤15
noncomputable instance {x:Exq}:Decidable x.Ok:=Classical.propDecidable _
def zero:Exq:=.mk 0 0 []
theorem Nd.kind {x:Exq}(h:x.Nd):1≤x.kind∧x.kind≤9:=by
 have:=h.ar
 unfold arity at this
 split at this<;>(try split at this)<;>(try split at this)<;>omega
theorem Shp.nd {n:Nat}{x:Exq}(h:x.Shp n):x.Nd:=by
 cases n with
 | zero=>exact h.elim
 | succ n=>exact h.1
theorem Shp.kid {n:Nat}{x:Exq}(h:x.Shp (n+1)) {i:Nat}(hi:i<x.kids.length):x.kids[i].Shp n:=h.2 _ (List.getElem_mem hi)
theorem Shp.bnd:∀{n:Nat}{x:Exq},x.Shp n→x.nod<2^n
 | 0,_,h=>h.elim
 | n+1,x,h=>by
  have h1:=h.1.ar
  have h2:x.kids.length≤2:=by
   unfold arity at h1
   split at h1<;>(try split at h1)<;>(try split at h1)<;>omega
  have h3:nods x.kids+x.kids.length≤x.kids.length*2^n:=by
   have key:∀l:List Exq,(∀y∈l,Shp n y)→nods l+l.length≤l.length*2^n:=by
    intro l
    induction l with
    | nil=>intro _;simp[nods]
    | cons y l ih=>
     intro hl
     have g1:=Shp.bnd (hl y (by simp))
     have g2:=ih fun z hz=>hl z (by simp[hz])
     simp only[nods,List.length_cons,Nat.add_mul]
     omega
   exact key _ h.2
  have h4:x.kids.length*2^n≤2*2^n:=Nat.mul_le_mul_right _ h2
  have h5:0<2^n:=Nat.pow_pos (by decide)
  rw[nod_eq,Nat.pow_succ]
  by_cases h6:x.kids.length=0
  ·have:x.kids=[]:=List.length_eq_zero_iff.1 h6
   rw[this];simp only[nods];omega
  ·rcases (show x.kids.length=1∨x.kids.length=2 by omega) with h7 | h7<;>rw[h7] at h3 h4<;>omega
def tr (p:Prop) [Decidable p]:Int:=if p then 1 else 0
def evk (vs:List Int) (k v a b:Int):Int:=
 if k=1 then v else if k=2 then vs.getD v.toNat 0 else if k=3 then tr (a=0) else if k=4 then tr (a≠0∧b≠0) else if k=5 then tr (a≠0∨b≠0)
 else if k=6 then tr (a=b) else if k=7 then tr (a<b) else if k=8 then (a+b).tmod 4 else (a-b+4).tmod 4
mutual
def ev (vs:List Int):Exq→Int
 | .mk k v l=>evk vs k v ((evs vs l).getD 0 0) ((evs vs l).getD 1 0)
def evs (vs:List Int):List Exq→List Int
 | []=>[]
 | x::l=>x.ev vs::evs vs l
end
def kev (x:Exq) (vs:List Int) (j:Nat):Int:=(x.kids.map (ev vs)).getD j 0
mutual
def mkv:Exq→List Bool→List Bool
 | .mk k v l,M=>mkvs l (if k=2 then M.set v.toNat true else M)
def mkvs:List Exq→List Bool→List Bool
 | [],M=>M
 | x::l,M=>mkvs l (x.mkv M)
end
end Exq
structure Ed.Ok (e:Ed) (n:Int):Prop where
 n1:1≤n
 n4:n≤4
 f0:0≤e.frm
 f1:e.frm<n
 t0:0≤e.to
 t1:e.to<n
 gd:e.guard.Ok
 v0:-1≤e.var
 v1:e.var≤2
 vl:(0≤e.var∧e.value.Ok)∨(e.var<0∧e.value=Exq.zero)
 s0:-2≤e.sync
 s1:e.sync≤2
noncomputable instance {e:Ed}{n:Int}:Decidable (e.Ok n):=Classical.propDecidable _
structure Pr.Ok (p:Pr):Prop where
 n1:1≤p.locs
 n4:p.locs≤4
 el:p.edges.length≤6
 ed:∀e∈p.edges,e.Ok p.locs
noncomputable instance {p:Pr}:Decidable p.Ok:=Classical.propDecidable _
structure Sy.Ok (s:Sy):Prop where
 vs:VOk s.init
 p1:1≤s.procs.length
 p3:s.procs.length≤3
 pr:∀p∈s.procs,p.Ok
noncomputable instance {s:Sy}:Decidable s.Ok:=Classical.propDecidable _
theorem Sy.Ok.at {s:Sy}(h:s.Ok) {i:Nat}(hi:i<s.procs.length):s.procs[i].Ok:=h.pr _ (List.getElem_mem hi)
theorem Pr.Ok.at {p:Pr}(h:p.Ok) {i:Nat}(hi:i<p.edges.length):p.edges[i].Ok p.locs:=h.ed _ (List.getElem_mem hi)
structure LOk (l:List Exq):Prop where
 len:l.length=3
 ok:∀x∈l,x.Ok
noncomputable instance {l:List Exq}:Decidable (LOk l):=Classical.propDecidable _
def relL (labels:List Exq) (M:List Bool):List Bool:=labels.foldl (fun M x=>x.mkv M) M
def relG (s:Sy) (M:List Bool):List Bool:=s.procs.foldl (fun M p=>p.edges.foldl (fun M e=>e.guard.mkv M) M) M
def Ed.relv (M:List Bool) (e:Ed):List Bool:=if 0≤e.var∧M.getD e.var.toNat false=true then e.value.mkv M else M
def relV (s:Sy) (M:List Bool):List Bool:=s.procs.foldl (fun M p=>p.edges.foldl Ed.relv M) M
def Sy.rel (s:Sy) (labels:List Exq):List Bool:=relV s (relV s (relV s (relG s (relL labels [false,false,false]))))
theorem Rep.cut {α:Type} [Ty α] {h:Heap}{v:Value}{l:List α}(R:Rep h v l) {n esz:Nat}{k:IntKind}(hn:n≤l.length):∃v',sliceVV esz v none (some (some (.int k n))) none=some v'∧Rep h v' (l.take n):=by
 obtain⟨p,cap,rfl,h1,h2,h3⟩:=Rep_list.1 R
 have hl:(l.take n).length=n:=by simp;omega
 have hc:n≤cap:=by omega
 cases n with
 | zero=>
  cases p with
  | none=>
   refine⟨.slice none 0 cap,?_,Rep_list.2 ⟨none,cap,by simp,by simp,trivial,fun i hi=>by simp at hi⟩⟩
   simp[sliceVV,bndV]
  | some a=>
   by_cases hz:cap=0
   ·refine⟨.slice (some a) 0 cap,?_,Rep_list.2 ⟨some a,cap,by simp,by simp,trivial,fun i hi=>by simp at hi⟩⟩
    simp[sliceVV,bndV,hz]
   ·refine⟨.slice (some (a.add 0)) 0 cap,?_,Rep_list.2 ⟨some (a.add 0),cap,by simp,by simp,trivial,fun i hi=>by simp at hi⟩⟩
    simp[sliceVV,bndV,hz]
 | succ n=>
  obtain⟨b,off,vs,rfl,_⟩:=h3 0 (by omega)
  refine⟨.slice (some ⟨b,off,none⟩) (n+1) cap,?_,Rep_list.2 ⟨_,cap,by rw[hl],by rw[hl];omega,trivial,fun i hi=>?_⟩⟩
  ·simp[sliceVV,bndV,add_none]
   rw[if_pos (by omega)]
  ·rw[hl] at hi
   obtain⟨b',off',vs,e1,e2,e3⟩:=h3 i (by omega)
   exact⟨b',off',vs,e1,e2,by simpa using e3⟩
@[simp] theorem nilcV_ptr {a:Addr}:nilcV (.pointer (some a))=some (.pointer (some a)):=rfl
instance instTyU8:Ty (BitVec 8) where
 agg:=false
 sz:=1
 rep:=fun _ cs n=>cs=[.int .u8 n.toNat]
 own:=fun r cs n=>r=Heap.nil∧cs=[.int .u8 n.toNat]
 one:=fun _=>rfl
 len:=by rintro h cs x rfl;rfl
 cell:=by rintro h cs x rfl v hv;simp at hv;subst hv;rfl
 mono:=fun _ hr=>hr
 own_rep:=fun ho=>ho.2
instance instFlatU8:Flat (BitVec 8):=⟨fun n=>[.int .u8 n.toNat],fun _=>True,by simp[Ty.rep],by simp[Ty.own]⟩
theorem Rep.Y {h:Heap}{v:Value}{l:List (BitVec 8)}(hr:Rep h v l):((∀(kd:IntKind) (i:Nat),i<l.length→iaV 1 v (.int kd i)=some (elp 1 v i))∧(∀(kd:IntKind) (i:Int),0≤i→i<l.length→iaV 1 v (.int kd i)=some (elp 1 v i.toNat))∧lenVV v=some (.int .i64 l.length)) ∧
  ∀(i:Nat) (hi:i<l.length),hload h (some (elp 1 v i)) none=some (.int .u8 l[i].toNat):=⟨hr.X rfl,fun _ hi=>hr.ldF hi⟩
theorem xor_nn {a b:Int}(ha:0≤a) (ha2:a<9223372036854775808) (hb:0≤b) (hb2:b<9223372036854775808):0≤xorI .i64 a b∧xorI .i64 a b<9223372036854775808:=by
 have e1:(BitVec.ofInt 64 a).toNat=a.toNat:=by rw[BitVec.toNat_ofInt];congr 1;exact Int.emod_eq_of_lt ha (by omega)
 have e2:(BitVec.ofInt 64 b).toNat=b.toNat:=by rw[BitVec.toNat_ofInt];congr 1;exact Int.emod_eq_of_lt hb (by omega)
 have h:a.toNat^^^b.toNat<2^63:=Nat.xor_lt_two_pow (by omega) (by omega)
 have e3:xorI .i64 a b=((a.toNat^^^b.toNat:Nat):Int):=by
  unfold xorI
  rw[show IntKind.i64.bits=64 from rfl,BitVec.toNat_xor,e1,e2]
  exact wrap64 (by omega) (by omega)
 rw[e3]
 omega
abbrev rb (b:Nat) (sl:Value) (p:Int):HP:=bx b [sl,.int .i64 p]
theorem tmod_rng {a b:Int}(ha:0≤a) (hb:0<b):0≤a.tmod b∧a.tmod b<b:=by
 rw[Int.tmod_eq_emod_of_nonneg ha]
 exact⟨Int.emod_nonneg _ (by omega),Int.emod_lt_of_pos _ hb⟩
theorem tdiv_rng {a b:Int}(ha:0≤a) (hb:0<b):0≤a.tdiv b∧a.tdiv b≤a:=by
 rw[Int.tdiv_eq_ediv_of_nonneg ha]
 exact⟨Int.ediv_nonneg ha (by omega),Int.ediv_le_self _ ha⟩
theorem c_pick {g h:Heap}{Γ:List HP}{b:Nat}{sl:Value}{l:List (BitVec 8)}{p n:Int}(R:Rep g sl l) (H:HS g (rb b sl p::Γ) h) (hp:0≤p) (hp2:p<1099511627776) (hn:I64 n) :
  CallE Tryz.prog fn_spec_l16Rd_pick [.pointer (some ⟨b,0,none⟩),.int .i64 n] h (fun u h'=>∃r,u=.int .i64 r∧I64 r∧0≤r∧(1≤n→r<n)∧HS g (rb b sl (p+1)::Γ) h'):=by
 have hL:=R.lt
 have hn1:=hn.1
 have hn2:=hn.2
 refine CallE.gen fun k hk=>EN_spec_l16Rd_pick rfl ?_
 have hb0:hload h (some (.pointer (some ⟨b,0,none⟩))) none=some sl:=H.bxld rfl
 have hb1:hload h (some (.pointer (some ⟨b,1,none⟩))) none=some (.int .i64 p):=H.bxld rfl
 simp -implicitDefEqProofs (disch:=first|omega|(simp only[LnZ];omega))[wrap64,hb0,hb1]
 refine HS.bxst (o:=1) (sz:=1) (u:=.int .i64 (p+1)) H rfl rfl rfl rfl (by simp) fun h2 H=>?_
 replace H:HS g (rb b sl (p+1)::Γ) h2:=H
 have hb0:hload h2 (some (.pointer (some ⟨b,0,none⟩))) none=some sl:=H.bxld rfl
 have hb1:hload h2 (some (.pointer (some ⟨b,1,none⟩))) none=some (.int .i64 (p+1)):=H.bxld rfl
 by_cases a1:n<1
 ·simp -implicitDefEqProofs (disch:=first|omega|(simp only[LnZ];omega))[wrap64,hb0,hb1,a1]
  exact RetK.keep (hk _ _ ⟨0,rfl,⟨by omega,by omega⟩,by omega,fun h=>absurd h (by omega),H⟩)
 obtain⟨ln,hln⟩:∃ln:Int,ln=l.length:=⟨_,rfl⟩
 have hlen:=(R.on H).len
 rw[← hln] at hlen
 by_cases a2:ln=0
 ·simp -implicitDefEqProofs (disch:=first|omega|(simp only[LnZ];omega))[wrap64,hb0,hb1,a1,hlen,a2]
  exact RetK.keep (hk _ _ ⟨0,rfl,⟨by omega,by omega⟩,by omega,fun h=>by omega,H⟩)
 obtain⟨m,rfl⟩:∃m:Nat,p=m:=⟨p.toNat,(Int.toNat_of_nonneg hp).symm⟩
 have hn0:¬n=0:=by omega
 by_cases a3:(m:Int)<ln
 ·have hk3:m<l.length:=by omega
  obtain⟨c,hc⟩:∃c:Int,c=l[m].toNat:=⟨_,rfl⟩
  have hc2:c<256:=by have:=l[m].isLt;omega
  have hc0:0≤c:=by omega
  have hld:=(R.on H).Y.2 m hk3
  rw[← hc] at hld
  obtain⟨r1,r2⟩:=tmod_rng hc0 (show 0<n by omega)
  simp -implicitDefEqProofs (disch:=first|omega|(simp only[LnZ];omega))[wrap64,hb0,hb1,a1,hlen,a2,a3,(R.on H).Y.1.1,hld,hn0]
  exact RetK.keep (hk _ _ ⟨c.tmod n,rfl,⟨by omega,by omega⟩,r1,fun _=>r2,H⟩)
 ·obtain⟨s1,s2⟩:=tmod_rng (a:=(m:Int)) (b:=ln) (by omega) (by omega)
  obtain⟨i1,hi1⟩:∃i1:Nat,(m:Int).tmod ln=i1:=⟨_,(Int.toNat_of_nonneg s1).symm⟩
  obtain⟨t1,t2⟩:=tmod_rng (a:=(m:Int)*7+3) (b:=ln) (by omega) (by omega)
  obtain⟨i2,hi2⟩:∃i2:Nat,((m:Int)*7+3).tmod ln=i2:=⟨_,(Int.toNat_of_nonneg t1).symm⟩
  obtain⟨q1,q2⟩:=tdiv_rng (a:=(m:Int)) (b:=ln) (by omega) (by omega)
  obtain⟨q,hq⟩:∃q:Int,(m:Int).tdiv ln=q:=⟨_,rfl⟩
  rw[hi1] at s1 s2
  rw[hi2] at t1 t2
  rw[hq] at q1 q2
  have hl1:i1<l.length:=by omega
  have hl2:i2<l.length:=by omega
  obtain⟨c,hc⟩:∃c:Int,c=l[i1].toNat:=⟨_,rfl⟩
  have hc2:c<256:=by have:=l[i1].isLt;omega
  have hc0:0≤c:=by omega
  have hld:=(R.on H).Y.2 i1 hl1
  rw[← hc] at hld
  obtain⟨d,hd⟩:∃d:Int,d=l[i2].toNat:=⟨_,rfl⟩
  have hd2:d<256:=by have:=l[i2].isLt;omega
  have hd0:0≤d:=by omega
  have hld2:=(R.on H).Y.2 i2 hl2
  rw[← hd] at hld2
  obtain⟨x,hx⟩:∃x:Int,x=c*131+d*1117+(m:Int)*29+q*53:=⟨_,rfl⟩
  have hx0:0≤x:=by omega
  have hx1:x<9223372036854775808:=by omega
  obtain⟨y1,y2⟩:=tdiv_rng (a:=x) (b:=64) hx0 (by omega)
  obtain⟨z1,z2⟩:=xor_nn hx0 hx1 y1 (by omega)
  obtain⟨w1,w2⟩:=tmod_rng z1 (show 0<n by omega)
  simp -implicitDefEqProofs (disch:=first|omega|(simp only[LnZ];omega))[wrap64,hb0,hb1,a1,hlen,a2,a3,(R.on H).Y.1.1,hi1,hi2,hq,hld,hld2,hn0,← hx]
  exact RetK.keep (hk _ _ ⟨_,rfl,⟨by omega,by omega⟩,w1,fun _=>w2,H⟩)
theorem c_num {g h:Heap}{Γ:List HP}{b:Nat}{sl v:Value}{l:List (BitVec 8)}{p:Int}{xs:List Int}(R:Rep g sl l) (H:HS g (ow v xs::rb b sl p::Γ) h) (hp:0≤p) (hp2:p<1099511627776) (hx:xs≠[]) :
  CallE Tryz.prog fn_spec_l16Rd_num [.pointer (some ⟨b,0,none⟩),v] h (fun u h'=>∃r,u=.int .i64 r∧I64 r∧r∈xs∧HS g (rb b sl (p+1)::Γ) h'):=by
 have hL:=H.rep.lt
 have hpos:0<xs.length:=List.length_pos_iff.2 hx
 refine CallE.gen fun k hk=>EN_spec_l16Rd_num rfl ?_
 simp -implicitDefEqProofs (disch:=first|omega|(simp only[LnZ];omega))[wrap64,H.rep.len]
 refine (c_pick R H.sw1 hp hp2 ⟨by omega,by omega⟩).go ?_
 rintro _ h1 ⟨r,rfl,hr,hr0,hr1,H⟩
 obtain⟨i,rfl⟩:∃i:Nat,r=i:=⟨r.toNat,(Int.toNat_of_nonneg hr0).symm⟩
 have hi:i<xs.length:=by have:=hr1 (by omega);omega
 have hok:=H.sw1.rep.okI hi
 simp -implicitDefEqProofs (disch:=first|omega|(simp only[LnZ];omega))[wrap64,H.sw1.rep.I]
 exact RetK.keep (hk _ _ ⟨xs[i],rfl,⟨hok.1,hok.2⟩,List.getElem_mem hi,H.sw1.drop⟩)
theorem c_l16Open {h:Heap}{v:Value}{l:List (BitVec 8)}(R:Rep h v l):CallE Tryz.prog fn_spec_l16Open [v] h (fun u h'=>∃b sl,∃l':List (BitVec 8),u=.pointer (some ⟨b,0,none⟩)∧Rep h sl l'∧HS h [rb b sl 0] h'):=by
 have hL:=R.lt
 refine CallE.gen fun k hk=>EN_spec_l16Open rfl ?_
 by_cases a1:(2000:Int)<l.length
 ·obtain⟨v',e1,R'⟩:=R.cut (n:=2000) (esz:=1) (k:=.i64) (by omega)
  have hO:=R'.one
  have e2:sliceVV 1 v none (some (some (.int .i64 2000))) none=some v':=e1
  simp -implicitDefEqProofs (disch:=first|omega|(simp only[LnZ];omega))[wrap64,R.len,a1,e2,setC,hO,R'.cells]
  refine HS.init.alloc rfl fun b h1 H=>?_
  simp -implicitDefEqProofs (disch:=omega)[wrap64]
  exact RetK.keep (hk _ _ ⟨b,v',_,rfl,R',H⟩)
 ·have hO:=R.one
  simp -implicitDefEqProofs (disch:=first|omega|(simp only[LnZ];omega))[wrap64,R.len,a1,setC,hO,R.cells]
  refine HS.init.alloc rfl fun b h1 H=>?_
  simp -implicitDefEqProofs (disch:=omega)[wrap64]
  exact RetK.keep (hk _ _ ⟨b,v,_,rfl,R,H⟩)
end Go.Proofs.YtielhfonnleldaaGreat

namespace Go.Proofs.YtielhfonnleldaaGreat
open Go Go.RowKit
def whole (w:World):Heap:=fun b=>w.heap[b]?
theorem calls_law {P:Program}{f:FuncId}{fn:Func}{args:List Value}{W:World}(hf:P.funcs[f]? = some fn) (hname:(fn.name == "runtime.NumGoroutine")=false) (hb:fn.body.isSome=true)
  (h:CallE P f args (whole W) (fun u h'=>(whole W).le h'∧u=.bool true)):Calls P f args.toArray W fun e W'=>e=.returned (.bool true)∧Below W.heap.size W W':=by
 have h1:=h W (fun b o hb=>hb)
 obtain⟨bd,hbd⟩:=Option.isSome_iff_exists.1 hb
 have hname':¬fn.name = "runtime.NumGoroutine":=by simpa using hname
 have hcall:(callFunc f args.toArray).run P W=.ok (.enter f args.toArray) W:=by
  simp[callFunc,hf,hname',hbd]
 rw[hcall] at h1
 refine Calls.mono h1 ?_
 rintro e W' ⟨v,h',rfl,⟨hl,rfl⟩,hs,hF⟩
 refine⟨rfl,hF.os,hF.tape,hF.output,hF.size,?_⟩
 intro k hk
 have h2:whole W k=some W.heap[k]:=by simp[whole,hk]
 rw[hs _ _ (hl _ _ h2)]
 simp[hk]
section
variable {H:Type}{enc:TypeId×Value→H}{P:Program}
theorem trodAll_below (hl:laidOutB P=true) {W W':World}:∀{ts:List TypeId}{vs:List Value}{ds:List (DataW H)}{ps:List MemPlace},(∀t∈ts,P.readableRec t=true∧t<P.types.size) →
  DataW.TrodAll enc P W 0 (fun _=>true) true ts vs ds ps→Below W.heap.size W W'→(∀x∈ps,x.block<W.heap.size)→DataW.TrodAll enc P W' 0 (fun b=>decide (b<W.heap.size)) true ts vs ds ps
 | [],[],[],_,_,h,_,_=>h
 | _::_,_::_,_::_,_,ht,⟨p,q,h1,h2,e⟩,hb,hlt=>
  ⟨p,q,Below.trod hl (ht _ (by simp)).1 (ht _ (by simp)).2 h1 hb (fun x hx=>hlt x (by rw[e];exact List.mem_append_left _ hx)),
   trodAll_below hl (fun t h=>ht t (by simp[h])) h2 hb (fun x hx=>hlt x (by rw[e];exact List.mem_append_right _ hx)),e⟩
theorem kept_below {W W':World}(hb:Below W.heap.size W W') (may:MemPlace→Prop):W.keptBut W' may:=by
 refine⟨hb.os,hb.output,fun i hi=>?_⟩
 rw[hb.block i hi]
 split
 ·rename_i h1 h2;rw[h1] at h2;simp only[Option.some.injEq,Obj.cells.injEq] at h2;obtain⟨rfl,rfl,rfl⟩:=h2;exact⟨rfl,rfl,rfl,fun _ _=>rfl⟩
 ·rename_i h1 h2;rw[h1] at h2;simp only[Option.some.injEq,Obj.map.injEq] at h2;obtain⟨rfl,rfl⟩:=h2;exact .inr ⟨rfl,rfl⟩
 ·rfl
theorem post_law {f:Func}{s:ChangeSpec}{W W':World}{args:Array Value}{ds gs:List (DataW H)}{before:List MemPlace}(hl:laidOutB P=true) (hvars:s.vars=[]) (ht:∀t∈f.params.toList,P.readableRec t=true∧t<P.types.size)
  (hr:∃t,f.resultTypes = #[t]∧P.underlying t=some .bool) (hspec:(s.fn H (ds++gs)).results=[.lit (.bool true)]∧(s.fn H (ds++gs)).args=ds∧(s.fn H (ds++gs)).vars=[])
  (hW:DataW.Whole enc P f.params.toList s.vars false W args.toList ds gs before) (hb:Below W.heap.size W W'):s.post enc P f false true false false W args (.bool true) W':=by
 obtain⟨t,ht1,ht2⟩:=hr
 obtain⟨h1,h2,h3⟩:=hspec
 have hW':=hW
 obtain⟨p,q,hA,hV,rfl,hz,hn⟩:=hW
 rw[hvars] at hV
 obtain⟨rfl,rfl⟩:=Go.ChangeShapes.trodVars_none hV
 have hlt:∀x∈p++[],x.block<W.heap.size:=fun x hx=>by simpa using hW'.lt x hx
 refine⟨ds,[],p++[],[],p,[],hW',?_,?_,?_,World.keptBut_mono (fun x hx=>⟨by simpa using hx,.inr (.inl (by simpa using hx))⟩) (kept_below hb (fun x=>x∈p)),by simp⟩
 ·rw[h1,ht1]
  exact trodAll_cons_mk (shut_bool ht2 _) Go.ChangeShapes.trodAll_mk0
 ·rw[h2]
  exact trodAll_below hl ht hA hb (fun x hx=>hlt x (by simpa using hx))
 ·rw[h3,hvars];rfl
end
def wOk {H:Type}(P:Program) (t:TypeId) (d:DataW H):Prop:=∀n∈d.weights P t,n≤reachBytes
theorem wOk_all {H:Type}{P:Program}{e:TypeId}:∀{l:List (DataW H)},(∀n∈DataW.weightsAll P e l,n≤reachBytes)→∀d∈l,wOk P e d
 | [],_,d,hd=>by simp at hd
 | x::l,h,d,hd=>by
  simp only[DataW.weightsAll,List.mem_append] at h
  rcases List.mem_cons.1 hd with rfl | hd
  ·exact fun n hn=>h n (.inl hn)
  ·exact wOk_all (fun n hn=>h n (.inr hn)) d hd
theorem wOk_each {H:Type}{P:Program}:∀{ts:List TypeId}{l:List (DataW H)},(∀n∈DataW.weightsEach P ts l,n≤reachBytes)→∀(i:Nat) t d,ts[i]? = some t→l[i]? = some d→wOk P t d
 | [],_,_,i,t,d,h1,_=>by simp at h1
 | _::_,[],_,i,t,d,_,h2=>by simp at h2
 | t0::ts,x::l,h,0,t,d,h1,h2=>by
  simp at h1 h2;subst h1 h2
  exact fun n hn=>h n (by simp only[DataW.weightsEach,List.mem_append];exact .inl hn)
 | t0::ts,x::l,h,i+1,t,d,h1,h2=>wOk_each (ts:=ts) (l:=l) (fun n hn=>h n (by simp only[DataW.weightsEach,List.mem_append];exact .inr hn)) i t d (by simpa using h1) (by simpa using h2)
def RdT (P:Program) (t:TypeId) (α:Type) [Ty α]:Prop:=∀{H:Type}(enc:TypeId×Value→H) (W:World) (sp:Nat→Bool) (fuel:Nat) (cs:List Value) (x:DataW H×List MemPlace),
 DataW.trod enc P W 0 sp true fuel t cs=some x→wOk P t x.1→∃y:α,Ty.rep (whole W) cs y
section
variable {P:Program}{t:TypeId}
theorem cells_whole {W:World}{b off:Nat}:∀{n:Nat}{l:List Value},W.cells? 0 ⟨b,off,none⟩ n=some l→hcells (whole W) b off n=some l:=by
 have key:∀n o l,(List.range' o n).mapM (fun i=>W.cell? ((⟨b,off,none⟩:Addr).add i))=some l→hcells (whole W) b (off+o) n=some l:=by
  intro n
  induction n with
  | zero=>intro o l h;simpa[hcells] using h
  | succ n ih=>
   intro o l h
   rw[List.range'_succ,List.mapM_cons] at h
   simp only[Option.bind_eq_bind,Option.bind_eq_some_iff,Option.pure_def,Option.some.injEq] at h
   obtain⟨v,h1,r,h2,rfl⟩:=h
   have h3:=ih (o+1) r h2
   have h4:hcell (whole W) b (off+o)=some v:=by
    rw[addr_add0] at h1
    simp only[World.cell?,Option.isSome_none,Bool.false_eq_true,if_false] at h1
    simp only[hcell,whole]
    split at h1
    ·rename_i hb;rw[hb];exact h1
    ·simp at h1
   simp only[hcells,h4]
   rw[show off+o+1=off+(o+1) by omega,h3]
 intro n l h
 simp only[World.cells?,Nat.zero_le,if_true] at h
 rw[List.range_eq_range'] at h
 exact key n 0 l h
theorem cells_spot {W:World}{b off s n:Nat}(hn:0<n):W.cells? 0 ⟨b,off,some s⟩ n=none:=by
 simp only[World.cells?,Nat.zero_le,if_true]
 cases n with
 | zero=>omega
 | succ n=>
  rw[List.range_succ_eq_map,List.mapM_cons]
  have:W.cell? ((⟨b,off,some s⟩:Addr).add 0)=none:=by
   simp only[Addr.add,if_true,World.cell?]
   split<;>simp
  rw[this];rfl
theorem rd_list {α:Type} [Ty α] {e:TypeId}(ht:P.underlying t=some (.slice e)) (hc:P.cellsOf e=Ty.sz α) (hpos:0<Ty.sz α) (hby:0<P.bytesOf e) (he:RdT P e α):RdT P t (List α):=by
 intro H enc W sp fuel cs x h hwt
 rcases Go.Deep.open_slice ht h with ⟨rfl,_⟩ | ⟨a,len,cap,m,n,D,Pl,rfl,_,hlen,hcap,hm,rfl,hel⟩
 ·exact⟨[],none,0,rfl,by simp,trivial,fun i hi=>by simp at hi⟩
 ·have hle:len≤m:=by rw[hm];split<;>omega
  simp only[wOk,DataW.weights,ht,List.mem_cons,List.mem_append] at hwt
  have hsz:len≤reachBytes:=by
   have h1:=hwt _ (.inl rfl)
   simp only[List.length_map,List.length_range] at h1
   have h2:len*1≤(len+(m-len))*P.bytesOf e:=Nat.mul_le_mul (by omega) hby
   omega
  have hwe:=wOk_all (fun n hn=>hwt n (.inr (.inl hn)))
  have hall:∀i,i<len→∃y:α,∃b off vs,some a=some (⟨b,off,none⟩:Addr)∧hcells (whole W) b (off+i*Ty.sz α) (Ty.sz α)=some vs∧Ty.rep (whole W) vs y:=by
   intro i hi
   obtain⟨cs',h1,h2⟩:=hel i (by omega)
   obtain⟨y,hy⟩:=he enc W sp n cs' _ h2 (hwe _ (List.mem_map.2 ⟨i,by simpa using hi,rfl⟩))
   obtain⟨b,off,spot⟩:=a
   rw[hc] at h1
   -- the address is plain: its first element could be read
   have h0:spot=none:=by
    cases spot with
    | none=>rfl
    | some s=>
     obtain⟨cs0,g1,_⟩:=hel 0 (by omega)
     rw[hc] at g1
     simp only[Nat.zero_mul,Addr.add,if_true] at g1
     rw[cells_spot hpos] at g1
     simp at g1
   subst h0
   rw[addr_add0] at h1
   exact⟨y,b,off,cs',rfl,cells_whole h1,hy⟩
  have hch:∃l:List α,l.length=len∧∀i (hi:i<l.length),∃b off vs,some a=some (⟨b,off,none⟩:Addr)∧hcells (whole W) b (off+i*Ty.sz α) (Ty.sz α)=some vs∧Ty.rep (whole W) vs l[i]:=by
   refine⟨(List.finRange len).map fun i=>Classical.choose (hall i.1 i.2),by simp,fun i hi=>?_⟩
   have hi':i<len:=by simpa using hi
   have:=Classical.choose_spec (hall i hi')
   simpa using this
  obtain⟨l,hl,hr⟩:=hch
  refine⟨l,some a,cap,by rw[hl],⟨by omega,?_⟩,trivial,hr⟩
  have:reachBytes<4611686018427387904:=by decide
  omega
end
section
variable {P:Program}{W:World}{r:Reach}{base:Nat}{t e:TypeId}{v:Value}
theorem okWide_slice (ht:P.underlying t=some (.slice e)) (h:Value.okWide P W r base t v):∃a n c,v=.slice a n c:=by
 unfold Value.okWide at h
 rw[ht] at h
 simp only[Cell.okWide,ht] at h
 cases v<;>simp[Cell.ok,ht] at h ⊢
end
theorem rd_u8 {P:Program}{t:TypeId}(ht:P.underlying t=some (.int .u8)):RdT P t (BitVec 8):=by
 intro H enc W sp fuel cs x h hwt
 cases fuel with
 | zero=>simp[DataW.trod] at h
 | succ n=>
  unfold DataW.trod at h
  rw[ht] at h
  split at h
  case h_2 k k' m h1=>
   simp only[Option.some.injEq,TypeDesc.int.injEq] at h1
   subst h1
   split at h
   case isTrue hc=>
    obtain⟨rfl,hw⟩:=hc
    have:=bounds_u8 hw
    refine⟨BitVec.ofNat 8 m.toNat,?_⟩
    show _=[Value.int .u8 ((BitVec.ofNat 8 m.toNat).toNat:Int)]
    have e:((BitVec.ofNat 8 m.toNat).toNat:Int)=m:=by
     rw[BitVec.toNat_ofNat,Nat.mod_eq_of_lt (by omega)];omega
    rw[e]
   case isFalse=>simp at h
  all_goals simp_all
def H_impl_Automaton_prefix:Hint:=⟨[(0,false),(1,false),(2,true),(4,false),(5,false),(6,false),(8,false),(14,false),(15,false),(16,false)],[[0,1,3,6]]⟩
abbrev K83_1:Pl:=.m 3 11 .done
abbrev K83_2:C:=.seq (.pl <| .e 10 2 <|
 .m 10 5 <|
 .c 11 (.call fn_impl_members [.v 10]) K83_1) (.ret)
abbrev K83_3:C:=.pl <| .e 10 1 <|
 .x 10 (.bin .add (.v 9) (.c (.int .i64 1))) <|
 .m 9 10 .done
abbrev K83_4:Pl:=.m 5 14 .done
abbrev K83_5:C:=.pl <| .e 10 5 <|
 .o (.pget (some 10) none 2 0 (some 3)) <|
 .m 11 4 <|
 .m 12 5 <|
 .m 13 6 <|
 .c 14 (.call fn_impl_Automaton_after [.v 10,.v 11,.v 12,.v 13]) K83_4
abbrev K83_6:C:=.seq (.block 1 (.seq (.pl <| .e 10 2 <|
 .x 10 (.ia 1 (.v 7) (.v 9)) <|
 .l 11 10 <|
 .m 6 11 .done) K83_5)) K83_3
abbrev K83_7:C:=.seq (.cond 10 (.v 10) (.skip) (.exit 0)) K83_6
abbrev K83_8:C:=.seq (.pl <| .e 10 1 <|
 .x 10 (.bin .lss (.v 9) (.v 8)) .done) K83_7
abbrev K83_9:C:=.block 0 (.loop 10 [0,1,3,6] K83_8)
abbrev K83_10:C:=.seq (.seq (.pl <| .e 10 0 <|
 .m 7 1 <|
 .x 8 (.lenV (.v 7)) <|
 .x 9 (.mv (.c (.int .i64 0))) .done) K83_9) K83_2
abbrev K83_11:Pl:=.m 5 12 .done
abbrev K83_12:C:=.seq (.pl <| .e 10 3 <|
 .o (.pget (some 10) none 2 0 (some 3)) <|
 .m 11 4 <|
 .c 12 (.call fn_impl_Automaton_begin [.v 10,.v 11]) K83_11) K83_10
abbrev K83_13:Pl:=.m 4 11 .done
abbrev K83_14:C:=.seq (.pl <| .e 10 2 <|
 .o (.pget (some 10) none 2 0 (some 3)) <|
 .c 11 (.call fn_impl_Automaton_live [.v 10]) K83_13) K83_12
abbrev B_impl_Automaton_prefix:C:=.seq (.pl <| .e 10 0 <|
 .o (.pnew 2 (.v 0) []) <|
 .x 3 (.mv (.c (.slice none 0 0))) .done) K83_14
def R_impl_Automaton_prefix:FIR:=⟨B_impl_Automaton_prefix,10,[(3,none)]⟩
theorem IR_impl_Automaton_prefix:cfun Tryz.prog H_impl_Automaton_prefix Tryz.f83=some R_impl_Automaton_prefix:=by kernel_rfl
theorem EN_impl_Automaton_prefix:ENT Tryz.prog B_impl_Automaton_prefix [(3,none)] 2 10 fn_impl_Automaton_prefix:=fun hargs hw=>enter Tryz.func83 rfl IR_impl_Automaton_prefix hargs hw
def H_impl_PrefixStates:Hint:=⟨[(0,false),(1,false),(2,true),(4,false),(5,false)],[]⟩
abbrev K27_1:Pl:=.m 3 7 <|
 .x 4 (.mv (.c (.bool true))) .done
abbrev K27_2:C:=.seq (.pl <| .e 5 3 <|
 .o (.pget (some 5) none 2 0 (some 3)) <|
 .m 6 1 <|
 .c 7 (.call fn_impl_Automaton_prefix [.v 5,.v 6]) K27_1) (.ret)
abbrev K27_3:C:=.seq (.pl <| .e 5 0 <|
 .x 3 (.mv (.c (.slice none 0 0))) <|
 .x 4 (.mv (.c (.bool false))) .done) (.ret)
abbrev K27_4:C:=.cond 5 (.v 12) K27_3 (.skip)
abbrev K27_5:Pl:=.n 8 (.px (some 11) (.un .not (.v 10))) <|
 .x 12 (.pick (.v 8) (.c (.bool true)) (.v 11)) .done
abbrev K27_6:Pl:=.x 7 (.un .not (.v 6)) <|
 .m 8 7 <|
 .n 8 (.px (some 9) (.mv (.v 1))) <|
 .st (.act (some (.v 8,false)) (.ex (some 10) (.call fn_impl_wordOk [.v 9]))) K27_5
abbrev K27_7:C:=.seq (.seq (.pl <| .e 5 8 <|
 .o (.pget (some 5) none 2 0 (some 3)) <|
 .c 6 (.call fn_impl_AutomatonValid [.v 5]) K27_6) K27_4) K27_2
abbrev B_impl_PrefixStates:C:=.seq (.pl <| .e 5 0 <|
 .o (.pnew 2 (.v 0) []) <|
 .x 3 (.mv (.c (.slice none 0 0))) <|
 .x 4 (.mv (.c (.bool false))) .done) K27_7
def R_impl_PrefixStates:FIR:=⟨B_impl_PrefixStates,5,[(3,none),(4,none)]⟩
theorem IR_impl_PrefixStates:cfun Tryz.prog H_impl_PrefixStates Tryz.f27=some R_impl_PrefixStates:=by kernel_rfl
theorem EN_impl_PrefixStates:ENT Tryz.prog B_impl_PrefixStates [(3,none),(4,none)] 2 5 fn_impl_PrefixStates:=fun hargs hw=>enter Tryz.func27 rfl IR_impl_PrefixStates hargs hw
def H_impl_members:Hint:=⟨[(0,false),(2,false),(3,false),(4,false),(5,false),(6,false),(7,false),(8,false)],[[0,1,3,4]]⟩
abbrev K135_1:Pl:=.m 1 9 .done
abbrev K135_2:C:=.seq (.pl <| .e 8 2 <|
 .m 8 2 <|
 .c 9 (.call fn_slices_Clip_S_int_int [.v 8]) K135_1) (.ret)
abbrev K135_3:C:=.pl <| .e 8 1 <|
 .x 8 (.bin .add (.v 7) (.c (.int .i64 1))) <|
 .m 7 8 .done
abbrev K135_4:Pl:=.m 2 11 .done
abbrev K135_5:C:=.pl <| .e 8 4 <|
 .m 8 2 <|
 .m 9 3 <|
 .o (.psl 10 [.int .i64 0] [(0,1,.v 9)]) <|
 .c 11 (.app 8 1 [.int .i64 0] (.o (.v 8)) (.p 1 10)) K135_4
abbrev K135_6:C:=.cond 8 (.v 8) K135_5 (.skip)
abbrev K135_7:C:=.seq (.pl <| .e 8 1 <|
 .m 8 4 .done) K135_6
abbrev K135_8:C:=.seq (.block 1 (.seq (.pl <| .e 8 3 <|
 .m 8 7 <|
 .x 9 (.ia 1 (.v 5) (.v 7)) <|
 .l 10 9 <|
 .m 3 8 <|
 .m 4 10 .done) K135_7)) K135_3
abbrev K135_9:C:=.seq (.cond 8 (.v 8) (.skip) (.exit 0)) K135_8
abbrev K135_10:C:=.seq (.pl <| .e 8 1 <|
 .x 8 (.bin .lss (.v 7) (.v 6)) .done) K135_9
abbrev K135_11:C:=.block 0 (.loop 8 [0,1,3,4] K135_10)
abbrev K135_12:C:=.seq (.seq (.pl <| .e 8 0 <|
 .m 5 0 <|
 .x 6 (.lenV (.v 5)) <|
 .x 7 (.mv (.c (.int .i64 0))) .done) K135_11) K135_2
abbrev K135_13:C:=.seq (.pl <| .e 8 0 <|
 .x 2 (.mv (.c (.slice none 0 0))) .done) K135_12
abbrev B_impl_members:C:=.seq (.pl <| .e 8 0 <|
 .x 1 (.mv (.c (.slice none 0 0))) .done) K135_13
def R_impl_members:FIR:=⟨B_impl_members,8,[(1,none)]⟩
theorem IR_impl_members:cfun Tryz.prog H_impl_members Tryz.f135=some R_impl_members:=by kernel_rfl
theorem EN_impl_members:ENT Tryz.prog B_impl_members [(1,none)] 1 8 fn_impl_members:=fun hargs hw=>enter Tryz.func135 rfl IR_impl_members hargs hw
def H_impl_wordOk:Hint:=⟨[(0,false),(2,false)],[]⟩
abbrev K82_1:Pl:=.x 8 (.pick (.v 5) (.v 7) (.c (.bool false))) <|
 .m 1 8 .done
abbrev K82_2:C:=.seq (.pl <| .e 2 7 <|
 .m 2 0 <|
 .x 3 (.lenV (.v 2)) <|
 .x 4 (.bin .leq (.v 3) (.c (.int .i64 200))) <|
 .m 5 4 <|
 .y 5 (.px (some 6) (.mv (.v 0))) <|
 .st (.act (some (.v 5,true)) (.ex (some 7) (.call fn_impl_letters [.v 6]))) K82_1) (.ret)
abbrev B_impl_wordOk:C:=.seq (.pl <| .e 2 0 <|
 .x 1 (.mv (.c (.bool false))) .done) K82_2
def R_impl_wordOk:FIR:=⟨B_impl_wordOk,2,[(1,none)]⟩
theorem IR_impl_wordOk:cfun Tryz.prog H_impl_wordOk Tryz.f82=some R_impl_wordOk:=by kernel_rfl
theorem EN_impl_wordOk:ENT Tryz.prog B_impl_wordOk [(1,none)] 1 2 fn_impl_wordOk:=fun hargs hw=>enter Tryz.func82 rfl IR_impl_wordOk hargs hw
def H_laws_wpInts:Hint:=⟨[(0,false),(1,false),(4,false),(5,false)],[[2]]⟩
abbrev K26_1:C:=.seq (.pl <| .e 4 0 <|
 .x 2 (.mv (.c (.bool true))) .done) (.ret)
abbrev K26_2:C:=.pl <| .e 4 2 <|
 .m 4 3 <|
 .x 5 (.bin .add (.v 4) (.c (.int .i64 1))) <|
 .m 3 5 .done
abbrev K26_3:C:=.seq (.pl <| .e 4 0 <|
 .x 2 (.mv (.c (.bool false))) .done) (.ret)
abbrev K26_4:C:=.cond 4 (.v 12) K26_3 (.skip)
abbrev K26_5:C:=.seq (.block 1 (.seq (.pl <| .e 4 9 <|
 .m 4 0 <|
 .m 5 3 <|
 .x 6 (.ia 1 (.v 4) (.v 5)) <|
 .l 7 6 <|
 .m 8 1 <|
 .m 9 3 <|
 .x 10 (.ia 1 (.v 8) (.v 9)) <|
 .l 11 10 <|
 .x 12 (.bin .neq (.v 7) (.v 11)) .done) K26_4)) K26_2
abbrev K26_6:C:=.cond 4 (.v 7) (.skip) (.exit 0)
abbrev K26_7:C:=.seq (.seq (.pl <| .e 4 4 <|
 .m 4 3 <|
 .m 5 0 <|
 .x 6 (.lenV (.v 5)) <|
 .x 7 (.bin .lss (.v 4) (.v 6)) .done) K26_6) K26_5
abbrev K26_8:C:=.block 0 (.loop 4 [2] K26_7)
abbrev K26_9:C:=.seq (.seq (.pl <| .e 4 0 <|
 .x 3 (.mv (.c (.int .i64 0))) .done) K26_8) K26_1
abbrev K26_10:C:=.seq (.pl <| .e 4 0 <|
 .x 2 (.mv (.c (.bool false))) .done) (.ret)
abbrev K26_11:C:=.cond 4 (.v 8) K26_10 (.skip)
abbrev K26_12:C:=.seq (.seq (.pl <| .e 4 5 <|
 .m 4 0 <|
 .x 5 (.lenV (.v 4)) <|
 .m 6 1 <|
 .x 7 (.lenV (.v 6)) <|
 .x 8 (.bin .neq (.v 5) (.v 7)) .done) K26_11) K26_9
abbrev B_laws_wpInts:C:=.seq (.pl <| .e 4 0 <|
 .x 2 (.mv (.c (.bool false))) .done) K26_12
def R_laws_wpInts:FIR:=⟨B_laws_wpInts,4,[(2,none)]⟩
theorem IR_laws_wpInts:cfun Tryz.prog H_laws_wpInts Tryz.f26=some R_laws_wpInts:=by kernel_rfl
theorem EN_laws_wpInts:ENT Tryz.prog B_laws_wpInts [(2,none)] 2 4 fn_laws_wpInts:=fun hargs hw=>enter Tryz.func26 rfl IR_laws_wpInts hargs hw
def H_spec_DrawShortestBad:Hint:=⟨[(0,false),(2,true),(3,false),(4,false),(5,true)],[]⟩
abbrev K25_1:Pl:=.o (.pset none 1 0 3 (.v 5)) <|
 .m 2 8 .done
abbrev K25_2:Pl:=.c 8 (.call fn_spec_l16Rd_num [.v 6,.v 7]) K25_1
abbrev K25_3:C:=.seq (.pl <| .e 5 4 <|
 .o (.pget (some 5) none 4 0 (some 3)) <|
 .m 6 3 <|
 .c 7 (.bls 1 7 [.int .i64 0] [(0,1,.c (.int .i64 3)),(1,1,.c (.int .i64 4)),(2,1,.c (.int .i64 2)),(3,1,.c (.int .i64 1)),(4,1,.c (.int .i64 0)),(5,1,.c (.int .i64 (-1))),(6,1,.c (.int .i64 9223372036854775807))]) K25_2) (.ret)
abbrev K25_4:Pl:=.o (.pnew 4 (.c (.agg #[.int .i64 0,.int .i64 0,.slice none 0 0])) []) <|
 .o (.pset none 4 0 3 (.v 8)) .done
abbrev K25_5:Pl:=.c 8 (.call fn_spec_l5Mutate [.v 5,.v 7]) K25_4
abbrev K25_6:C:=.seq (.pl <| .e 5 4 <|
 .m 5 3 <|
 .m 6 3 <|
 .c 7 (.call fn_spec_l5Formula [.v 6]) K25_5) K25_3
abbrev K25_7:Pl:=.m 3 6 .done
abbrev K25_8:C:=.seq (.pl <| .e 5 2 <|
 .m 5 0 <|
 .c 6 (.call fn_spec_l16Open [.v 5]) K25_7) K25_6
abbrev B_spec_DrawShortestBad:C:=.seq (.pl <| .e 5 0 <|
 .o (.pnew 1 (.c (.agg #[.int .i64 0,.int .i64 0,.slice none 0 0])) []) <|
 .x 2 (.mv (.c (.int .i64 0))) .done) K25_8
def R_spec_DrawShortestBad:FIR:=⟨B_spec_DrawShortestBad,5,[(1,some (some 3)),(2,none)]⟩
theorem IR_spec_DrawShortestBad:cfun Tryz.prog H_spec_DrawShortestBad Tryz.f25=some R_spec_DrawShortestBad:=by kernel_rfl
theorem EN_spec_DrawShortestBad:ENT Tryz.prog B_spec_DrawShortestBad [(1,some (some 3)),(2,none)] 1 5 fn_spec_DrawShortestBad:=fun hargs hw=>enter Tryz.func25 rfl IR_spec_DrawShortestBad hargs hw
def H_laws_FnShortestBadLeast:Hint:=⟨[(0,false),(1,false),(4,false),(5,true),(6,false),(7,true),(8,false),(9,false),(10,false),(11,false),(12,false),(13,true),(15,false),(16,false)],[]⟩
abbrev K6_1:C:=.seq (.pl <| .e 14 7 <|
 .m 14 13 <|
 .x 15 (.un .not (.v 14)) <|
 .m 16 15 <|
 .n 16 (.px (some 17) (.mv (.v 12))) <|
 .n 16 (.px (some 18) (.lenV (.v 17))) <|
 .n 16 (.px (some 19) (.bin .gtr (.v 18) (.c (.int .i64 0)))) <|
 .x 20 (.pick (.v 16) (.c (.bool true)) (.v 19)) <|
 .m 2 20 .done) (.ret)
abbrev K6_2:Pl:=.m 17 16 <|
 .x 18 (.extract 0 (.v 17)) <|
 .x 19 (.extract 1 (.v 17)) <|
 .m 12 18 <|
 .m 13 19 .done
abbrev K6_3:C:=.seq (.pl <| .e 14 6 <|
 .o (.pget (some 14) none 11 0 (some 3)) <|
 .m 15 6 <|
 .c 16 (.call fn_impl_PrefixStates [.v 14,.v 15]) K6_2) K6_1
abbrev K6_4:Pl:=.m 16 15 <|
 .x 17 (.extract 0 (.v 16)) <|
 .x 18 (.extract 1 (.v 16)) <|
 .o (.pnew 11 (.c (.agg #[.slice none 0 0,.slice none 0 0,.slice none 0 0])) []) <|
 .o (.pset none 11 0 3 (.v 17)) <|
 .m 19 18 .done
abbrev K6_5:C:=.seq (.pl <| .e 14 6 <|
 .o (.pget (some 14) none 3 0 (some 3)) <|
 .c 15 (.call fn_impl_TranslateFormula [.v 14]) K6_4) K6_3
abbrev K6_6:Pl:=.x 21 (.pick (.v 17) (.v 20) (.c (.bool false))) <|
 .m 2 21 .done
abbrev K6_7:C:=.seq (.pl <| .e 14 8 <|
 .m 14 8 <|
 .m 15 10 <|
 .x 16 (.eqb false (.v 14) (.v 15)) <|
 .m 17 16 <|
 .y 17 (.px (some 18) (.mv (.v 7))) <|
 .y 17 (.px (some 19) (.mv (.v 9))) <|
 .st (.act (some (.v 17,true)) (.ex (some 20) (.call fn_laws_wpInts [.v 18,.v 19]))) K6_6) (.ret)
abbrev K6_8:C:=.cond 14 (.v 33) K6_7 (.skip)
abbrev K6_9:Pl:=.n 17 (.px (some 21) (.un .not (.v 20))) <|
 .x 22 (.pick (.v 17) (.c (.bool true)) (.v 21)) <|
 .m 23 22 <|
 .n 23 (.px (some 24) (.mv (.v 8))) <|
 .n 23 (.px (some 25) (.un .not (.v 24))) <|
 .x 26 (.pick (.v 23) (.c (.bool true)) (.v 25)) <|
 .m 27 26 <|
 .n 27 (.px (some 28) (.mv (.v 6))) <|
 .n 27 (.px (some 29) (.lenV (.v 28))) <|
 .n 27 (.px (some 30) (.mv (.v 7))) <|
 .n 27 (.px (some 31) (.lenV (.v 30))) <|
 .n 27 (.px (some 32) (.bin .geq (.v 29) (.v 31))) <|
 .x 33 (.pick (.v 27) (.c (.bool true)) (.v 32)) .done
abbrev K6_10:C:=.seq (.seq (.pl <| .e 14 20 <|
 .m 14 8 <|
 .m 15 10 <|
 .x 16 (.eqb true (.v 14) (.v 15)) <|
 .m 17 16 <|
 .n 17 (.px (some 18) (.mv (.v 7))) <|
 .n 17 (.px (some 19) (.mv (.v 9))) <|
 .st (.act (some (.v 17,false)) (.ex (some 20) (.call fn_laws_wpInts [.v 18,.v 19]))) K6_9) K6_8) K6_5
abbrev K6_11:Pl:=.m 17 16 <|
 .x 18 (.extract 0 (.v 17)) <|
 .x 19 (.extract 1 (.v 17)) <|
 .m 9 18 <|
 .m 10 19 .done
abbrev K6_12:C:=.seq (.pl <| .e 14 6 <|
 .o (.pget (some 14) none 3 0 (some 3)) <|
 .m 15 4 <|
 .c 16 (.call fn_spec_ShortestBad [.v 14,.v 15]) K6_11) K6_10
abbrev K6_13:Pl:=.m 17 16 <|
 .x 18 (.extract 0 (.v 17)) <|
 .x 19 (.extract 1 (.v 17)) <|
 .m 7 18 <|
 .m 8 19 .done
abbrev K6_14:C:=.seq (.pl <| .e 14 6 <|
 .o (.pget (some 14) none 3 0 (some 3)) <|
 .m 15 4 <|
 .c 16 (.call fn_impl_ShortestBad [.v 14,.v 15]) K6_13) K6_12
abbrev K6_15:Pl:=.m 16 15 <|
 .x 17 (.extract 0 (.v 16)) <|
 .x 18 (.extract 1 (.v 16)) <|
 .o (.pnew 5 (.c (.agg #[.int .i64 0,.int .i64 0,.slice none 0 0])) []) <|
 .o (.pset none 5 0 3 (.v 17)) <|
 .m 6 18 .done
abbrev K6_16:C:=.seq (.pl <| .e 14 5 <|
 .m 14 1 <|
 .c 15 (.call fn_spec_DrawMonitorRun [.v 14]) K6_15) K6_14
abbrev K6_17:Pl:=.m 16 15 <|
 .x 17 (.extract 0 (.v 16)) <|
 .x 18 (.extract 1 (.v 16)) <|
 .o (.pnew 3 (.c (.agg #[.int .i64 0,.int .i64 0,.slice none 0 0])) []) <|
 .o (.pset none 3 0 3 (.v 17)) <|
 .m 4 18 .done
abbrev K6_18:C:=.seq (.pl <| .e 14 5 <|
 .m 14 0 <|
 .c 15 (.call fn_spec_DrawShortestBad [.v 14]) K6_17) K6_16
abbrev K6_19:C:=.seq (.pl <| .e 14 0 <|
 .x 2 (.mv (.c (.bool true))) .done) (.ret)
abbrev K6_20:C:=.cond 14 (.v 21) K6_19 (.skip)
abbrev K6_21:C:=.seq (.seq (.pl <| .e 14 8 <|
 .m 14 0 <|
 .x 15 (.lenV (.v 14)) <|
 .x 16 (.bin .gtr (.v 15) (.c (.int .i64 1048576))) <|
 .m 17 16 <|
 .n 17 (.px (some 18) (.mv (.v 1))) <|
 .n 17 (.px (some 19) (.lenV (.v 18))) <|
 .n 17 (.px (some 20) (.bin .gtr (.v 19) (.c (.int .i64 1048576)))) <|
 .x 21 (.pick (.v 17) (.c (.bool true)) (.v 20)) .done) K6_20) K6_18
abbrev B_laws_FnShortestBadLeast:C:=.seq (.pl <| .e 14 0 <|
 .x 2 (.mv (.c (.bool false))) .done) K6_21
def R_laws_FnShortestBadLeast:FIR:=⟨B_laws_FnShortestBadLeast,14,[(2,none)]⟩
theorem IR_laws_FnShortestBadLeast:cfun Tryz.prog H_laws_FnShortestBadLeast Tryz.f6=some R_laws_FnShortestBadLeast:=by kernel_rfl
theorem EN_laws_FnShortestBadLeast:ENT Tryz.prog B_laws_FnShortestBadLeast [(2,none)] 2 14 fn_laws_FnShortestBadLeast:=fun hargs hw=>enter Tryz.func6 rfl IR_laws_FnShortestBadLeast hargs hw
def H_spec_DrawMonitorFormula:Hint:=⟨[(0,false),(2,true),(3,false),(4,false),(5,true)],[]⟩
abbrev K84_1:Pl:=.o (.pset none 1 0 3 (.v 5)) <|
 .m 2 7 .done
abbrev K84_2:C:=.seq (.pl <| .e 5 3 <|
 .o (.pget (some 5) none 4 0 (some 3)) <|
 .m 6 3 <|
 .c 7 (.call fn_spec_l12Letters [.v 6]) K84_1) (.ret)
abbrev K84_3:Pl:=.o (.pnew 4 (.c (.agg #[.int .i64 0,.int .i64 0,.slice none 0 0])) []) <|
 .o (.pset none 4 0 3 (.v 8)) .done
abbrev K84_4:Pl:=.c 8 (.call fn_spec_l5Mutate [.v 5,.v 7]) K84_3
abbrev K84_5:C:=.seq (.pl <| .e 5 4 <|
 .m 5 3 <|
 .m 6 3 <|
 .c 7 (.call fn_spec_l5Formula [.v 6]) K84_4) K84_2
abbrev K84_6:Pl:=.m 3 6 .done
abbrev K84_7:C:=.seq (.pl <| .e 5 2 <|
 .m 5 0 <|
 .c 6 (.call fn_spec_l16Open [.v 5]) K84_6) K84_5
abbrev B_spec_DrawMonitorFormula:C:=.seq (.pl <| .e 5 0 <|
 .o (.pnew 1 (.c (.agg #[.int .i64 0,.int .i64 0,.slice none 0 0])) []) <|
 .x 2 (.mv (.c (.slice none 0 0))) .done) K84_7
def R_spec_DrawMonitorFormula:FIR:=⟨B_spec_DrawMonitorFormula,5,[(1,some (some 3)),(2,none)]⟩
theorem IR_spec_DrawMonitorFormula:cfun Tryz.prog H_spec_DrawMonitorFormula Tryz.f84=some R_spec_DrawMonitorFormula:=by kernel_rfl
theorem EN_spec_DrawMonitorFormula:ENT Tryz.prog B_spec_DrawMonitorFormula [(1,some (some 3)),(2,none)] 1 5 fn_spec_DrawMonitorFormula:=fun hargs hw=>enter Tryz.func84 rfl IR_spec_DrawMonitorFormula hargs hw
def H_spec_DrawMonitorRun:Hint:=⟨[(0,false),(2,true),(3,false),(4,true),(5,false)],[]⟩
abbrev K28_1:C:=.seq (.pl <| .e 5 2 <|
 .o (.pget (some 5) none 3 0 (some 3)) <|
 .m 6 4 <|
 .o (.pset none 1 0 3 (.v 5)) <|
 .m 2 6 .done) (.ret)
abbrev K28_2:C:=.pl <| .e 5 2 <|
 .m 5 4 <|
 .x 6 (.sliceV 1 (.v 5) none (some (.c (.int .i64 8))) none) <|
 .m 4 6 .done
abbrev K28_3:C:=.cond 5 (.v 7) K28_2 (.skip)
abbrev K28_4:C:=.seq (.seq (.pl <| .e 5 3 <|
 .m 5 4 <|
 .x 6 (.lenV (.v 5)) <|
 .x 7 (.bin .gtr (.v 6) (.c (.int .i64 8))) .done) K28_3) K28_1
abbrev K28_5:Pl:=.m 7 6 <|
 .x 8 (.extract 0 (.v 7)) <|
 .x 9 (.extract 1 (.v 7)) <|
 .o (.pnew 3 (.c (.agg #[.int .i64 0,.int .i64 0,.slice none 0 0])) []) <|
 .o (.pset none 3 0 3 (.v 8)) <|
 .m 4 9 .done
abbrev K28_6:C:=.seq (.pl <| .e 5 5 <|
 .m 5 0 <|
 .c 6 (.call fn_spec_DrawMonitorFormula [.v 5]) K28_5) K28_4
abbrev B_spec_DrawMonitorRun:C:=.seq (.pl <| .e 5 0 <|
 .o (.pnew 1 (.c (.agg #[.int .i64 0,.int .i64 0,.slice none 0 0])) []) <|
 .x 2 (.mv (.c (.slice none 0 0))) .done) K28_6
def R_spec_DrawMonitorRun:FIR:=⟨B_spec_DrawMonitorRun,5,[(1,some (some 3)),(2,none)]⟩
theorem IR_spec_DrawMonitorRun:cfun Tryz.prog H_spec_DrawMonitorRun Tryz.f28=some R_spec_DrawMonitorRun:=by kernel_rfl
theorem EN_spec_DrawMonitorRun:ENT Tryz.prog B_spec_DrawMonitorRun [(1,some (some 3)),(2,none)] 1 5 fn_spec_DrawMonitorRun:=fun hargs hw=>enter Tryz.func28 rfl IR_spec_DrawMonitorRun hargs hw
def H_spec_l12Letters:Hint:=⟨[(0,false),(2,false),(3,false),(10,false)],[[1,3]]⟩
abbrev K136_1:C:=.seq (.pl <| .e 4 1 <|
 .m 4 2 <|
 .m 1 4 .done) (.ret)
abbrev K136_2:Pl:=.m 2 9 .done
abbrev K136_3:Pl:=.o (.psl 8 [.int .i64 0] [(0,1,.v 7)]) <|
 .c 9 (.app 8 1 [.int .i64 0] (.o (.v 4)) (.p 1 8)) K136_2
abbrev K136_4:Pl:=.c 7 (.call fn_spec_l16Rd_num [.v 5,.v 6]) K136_3
abbrev K136_5:C:=.pl <| .e 4 6 <|
 .m 4 2 <|
 .m 5 0 <|
 .c 6 (.bls 1 3 [.int .i64 0] [(0,1,.c (.int .i64 8)),(1,1,.c (.int .i64 (-1))),(2,1,.c (.int .i64 9223372036854775807))]) K136_4
abbrev K136_6:Pl:=.m 2 6 .done
abbrev K136_7:C:=.block 2 (.pl <| .e 4 3 <|
 .m 4 2 <|
 .o (.psl 5 [.int .i64 0] [(0,1,.c (.int .i64 1))]) <|
 .c 6 (.app 8 1 [.int .i64 0] (.o (.v 4)) (.p 1 5)) K136_6)
abbrev K136_8:C:=.cond 4 (.v 9) (.skip) (.exit 1)
abbrev K136_9:Pl:=.x 8 (.bin .add (.c (.int .i64 200)) (.v 7)) <|
 .x 9 (.bin .lss (.v 5) (.v 8)) .done
abbrev K136_10:C:=.seq (.seq (.pl <| .e 4 6 <|
 .m 4 2 <|
 .x 5 (.lenV (.v 4)) <|
 .m 6 0 <|
 .c 7 (.call fn_spec_l16Rd_pick [.v 6,.c (.int .i64 2)]) K136_9) K136_8) K136_7
abbrev K136_11:C:=.block 1 (.loop 4 [1,3] K136_10)
abbrev K136_12:C:=.cond 4 (.v 5) K136_11 (.skip)
abbrev K136_13:C:=.seq (.pl <| .e 4 2 <|
 .x 4 (.bin .eql (.v 3) (.c (.int .i64 1))) <|
 .m 5 4 .done) K136_12
abbrev K136_14:C:=.cond 4 (.v 5) K136_5 K136_13
abbrev K136_15:C:=.block 0 (.seq (.pl <| .e 4 2 <|
 .x 4 (.bin .eql (.v 3) (.c (.int .i64 0))) <|
 .m 5 4 .done) K136_14)
abbrev K136_16:C:=.seq (.seq (.pl <| .e 4 1 <|
 .m 4 0 <|
 .c 3 (.call fn_spec_l16Rd_pick [.v 4,.c (.int .i64 40)]) .done) K136_15) K136_1
abbrev K136_17:Pl:=.m 2 8 .done
abbrev K136_18:Pl:=.c 8 (.call fn_spec_l6Word [.v 4,.v 7]) K136_17
abbrev K136_19:Pl:=.c 7 (.call fn_spec_l16Rd_num [.v 5,.v 6]) K136_18
abbrev K136_20:C:=.seq (.pl <| .e 4 5 <|
 .m 4 0 <|
 .m 5 0 <|
 .c 6 (.bls 1 6 [.int .i64 0] [(0,1,.c (.int .i64 3)),(1,1,.c (.int .i64 2)),(2,1,.c (.int .i64 4)),(3,1,.c (.int .i64 1)),(4,1,.c (.int .i64 0)),(5,1,.c (.int .i64 6))]) K136_19) K136_16
abbrev B_spec_l12Letters:C:=.seq (.pl <| .e 4 0 <|
 .x 1 (.mv (.c (.slice none 0 0))) .done) K136_20
def R_spec_l12Letters:FIR:=⟨B_spec_l12Letters,4,[(1,none)]⟩
theorem IR_spec_l12Letters:cfun Tryz.prog H_spec_l12Letters Tryz.f136=some R_spec_l12Letters:=by kernel_rfl
theorem EN_spec_l12Letters:ENT Tryz.prog B_spec_l12Letters [(1,none)] 1 4 fn_spec_l12Letters:=fun hargs hw=>enter Tryz.func136 rfl IR_spec_l12Letters hargs hw
def H_impl_Automaton_after:Hint:=⟨[(0,false),(1,false),(2,false),(3,false),(4,true),(8,false),(9,false),(11,true),(16,false),(17,false),(18,false)],[[0,4,5,7]]⟩
abbrev K74_1:C:=.seq (.pl <| .e 11 1 <|
 .m 11 6 <|
 .m 5 11 .done) (.ret)
abbrev K74_2:C:=.pl <| .e 11 1 <|
 .x 11 (.bin .add (.v 10) (.c (.int .i64 1))) <|
 .m 10 11 .done
abbrev K74_3:C:=.pl <| .e 11 4 <|
 .m 11 6 <|
 .a 12 7 <|
 .g 13 12 7 3 <|
 .x 14 (.ia 1 (.v 11) (.v 13)) <|
 .o (.ex none (.store 1 (.v 14) (.c (.bool true)))) .done
abbrev K74_4:C:=.cond 11 (.v 27) K74_3 (.skip)
abbrev K74_5:Pl:=.x 27 (.pick (.v 23) (.v 26) (.c (.bool false))) .done
abbrev K74_6:C:=.seq (.pl <| .e 11 17 <|
 .m 11 2 <|
 .a 12 7 <|
 .g 13 12 7 0 <|
 .x 14 (.ia 1 (.v 11) (.v 13)) <|
 .l 15 14 <|
 .m 16 15 <|
 .y 16 (.px (some 17) (.mv (.v 1))) <|
 .y 16 (.als 18 none 7) <|
 .y 16 (.pget (some 19) (some 18) 7 3 none) <|
 .y 16 (.px (some 20) (.ia 1 (.v 17) (.v 19))) <|
 .y 16 (.ld (some 21) (.v 20) none) <|
 .x 22 (.pick (.v 16) (.v 21) (.c (.bool false))) <|
 .m 23 22 <|
 .y 23 (.pget (some 24) none 7 0 (some 4)) <|
 .y 23 (.px (some 25) (.mv (.v 3))) <|
 .st (.act (some (.v 23,true)) (.ex (some 26) (.call fn_impl_Transition_takes [.v 24,.v 25]))) K74_5) K74_4
abbrev K74_7:C:=.seq (.block 1 (.seq (.pl <| .e 11 2 <|
 .x 11 (.ia 4 (.v 8) (.v 10)) <|
 .o (.ld (some 12) (.v 11) (some 4)) <|
 .o (.pnew 7 (.c (.agg #[.int .i64 0,.int .i64 0,.int .i64 0,.int .i64 0])) []) <|
 .o (.pset none 7 0 4 (.v 12)) .done) K74_6)) K74_2
abbrev K74_8:C:=.seq (.cond 11 (.v 11) (.skip) (.exit 0)) K74_7
abbrev K74_9:C:=.seq (.pl <| .e 11 1 <|
 .x 11 (.bin .lss (.v 10) (.v 9)) .done) K74_8
abbrev K74_10:C:=.block 0 (.loop 11 [0,4,5,7] K74_9)
abbrev K74_11:C:=.seq (.seq (.pl <| .e 11 1 <|
 .a 11 4 <|
 .g 8 11 4 2 <|
 .x 9 (.lenV (.v 8)) <|
 .x 10 (.mv (.c (.int .i64 0))) .done) K74_10) K74_1
abbrev K74_12:Pl:=.m 6 13 .done
abbrev K74_13:C:=.seq (.pl <| .e 11 3 <|
 .m 11 1 <|
 .x 12 (.lenV (.v 11)) <|
 .c 13 (.mks 1 1 [.bool false] (.v 12) (.v 12)) K74_12) K74_11
abbrev B_impl_Automaton_after:C:=.seq (.pl <| .e 11 0 <|
 .o (.pnew 4 (.v 0) []) <|
 .x 5 (.mv (.c (.slice none 0 0))) .done) K74_13
def R_impl_Automaton_after:FIR:=⟨B_impl_Automaton_after,11,[(5,none)]⟩
theorem IR_impl_Automaton_after:cfun Tryz.prog H_impl_Automaton_after Tryz.f74=some R_impl_Automaton_after:=by kernel_rfl
theorem EN_impl_Automaton_after:ENT Tryz.prog B_impl_Automaton_after [(5,none)] 4 11 fn_impl_Automaton_after:=fun hargs hw=>enter Tryz.func74 rfl IR_impl_Automaton_after hargs hw
def H_impl_Automaton_begin:Hint:=⟨[(0,false),(1,false),(2,true),(4,false),(5,false),(7,false),(12,false),(13,false),(14,false)],[[0,2,3,5]]⟩
abbrev K72_1:C:=.seq (.pl <| .e 9 1 <|
 .m 9 4 <|
 .m 3 9 .done) (.ret)
abbrev K72_2:C:=.pl <| .e 9 1 <|
 .x 9 (.bin .add (.v 8) (.c (.int .i64 1))) <|
 .m 8 9 .done
abbrev K72_3:C:=.pl <| .e 9 7 <|
 .m 9 4 <|
 .m 10 5 <|
 .m 11 1 <|
 .m 12 5 <|
 .x 13 (.ia 1 (.v 11) (.v 12)) <|
 .l 14 13 <|
 .x 15 (.ia 1 (.v 9) (.v 10)) <|
 .o (.ex none (.store 1 (.v 15) (.v 14))) .done
abbrev K72_4:C:=.seq (.block 1 (.seq (.pl <| .e 9 2 <|
 .x 9 (.ia 1 (.v 6) (.v 8)) <|
 .l 10 9 <|
 .m 5 10 .done) K72_3)) K72_2
abbrev K72_5:C:=.seq (.cond 9 (.v 9) (.skip) (.exit 0)) K72_4
abbrev K72_6:C:=.seq (.pl <| .e 9 1 <|
 .x 9 (.bin .lss (.v 8) (.v 7)) .done) K72_5
abbrev K72_7:C:=.block 0 (.loop 9 [0,2,3,5] K72_6)
abbrev K72_8:C:=.seq (.seq (.pl <| .e 9 1 <|
 .a 9 2 <|
 .g 6 9 2 0 <|
 .x 7 (.lenV (.v 6)) <|
 .x 8 (.mv (.c (.int .i64 0))) .done) K72_7) K72_1
abbrev K72_9:Pl:=.m 4 11 .done
abbrev K72_10:C:=.seq (.pl <| .e 9 3 <|
 .m 9 1 <|
 .x 10 (.lenV (.v 9)) <|
 .c 11 (.mks 1 1 [.bool false] (.v 10) (.v 10)) K72_9) K72_8
abbrev B_impl_Automaton_begin:C:=.seq (.pl <| .e 9 0 <|
 .o (.pnew 2 (.v 0) []) <|
 .x 3 (.mv (.c (.slice none 0 0))) .done) K72_10
def R_impl_Automaton_begin:FIR:=⟨B_impl_Automaton_begin,9,[(3,none)]⟩
theorem IR_impl_Automaton_begin:cfun Tryz.prog H_impl_Automaton_begin Tryz.f72=some R_impl_Automaton_begin:=by kernel_rfl
theorem EN_impl_Automaton_begin:ENT Tryz.prog B_impl_Automaton_begin [(3,none)] 2 9 fn_impl_Automaton_begin:=fun hargs hw=>enter Tryz.func72 rfl IR_impl_Automaton_begin hargs hw
def H_impl_Automaton_live:Hint:=⟨[(0,false),(1,true),(2,false),(3,false),(4,false),(5,false),(6,false),(7,false),(8,false),(17,false),(18,false),(24,false),(25,false),(26,false)],[[0,2,6,7,8,11,12,13],[0,2,7,8]]⟩
abbrev K71_1:C:=.seq (.pl <| .e 14 1 <|
 .m 14 5 <|
 .m 2 14 .done) (.ret)
abbrev K71_2:C:=.pl <| .e 14 1 <|
 .x 14 (.bin .add (.v 10) (.c (.int .i64 1))) <|
 .m 10 14 .done
abbrev K71_3:C:=.pl <| .e 14 1 <|
 .x 14 (.bin .add (.v 13) (.c (.int .i64 1))) <|
 .m 13 14 .done
abbrev K71_4:C:=.pl <| .e 14 23 <|
 .m 14 5 <|
 .m 15 6 <|
 .m 16 5 <|
 .m 17 6 <|
 .x 18 (.ia 1 (.v 16) (.v 17)) <|
 .l 19 18 <|
 .m 20 19 <|
 .n 20 (.px (some 21) (.mv (.v 8))) <|
 .n 20 (.px (some 22) (.mv (.v 21))) <|
 .y 22 (.px (some 23) (.mv (.v 4))) <|
 .y 22 (.px (some 24) (.mv (.v 7))) <|
 .y 22 (.px (some 25) (.ia 1 (.v 23) (.v 24))) <|
 .y 22 (.ld (some 26) (.v 25) none) <|
 .n 20 (.px (some 27) (.pick (.v 22) (.v 26) (.c (.bool false)))) <|
 .n 20 (.px (some 28) (.mv (.v 27))) <|
 .y 28 (.als 29 none 1) <|
 .y 28 (.pget (some 30) (some 29) 1 1 none) <|
 .y 28 (.px (some 31) (.mv (.v 7))) <|
 .y 28 (.px (some 32) (.ia 1 (.v 30) (.v 31))) <|
 .y 28 (.ld (some 33) (.v 32) none) <|
 .n 20 (.px (some 34) (.pick (.v 28) (.v 33) (.c (.bool false)))) <|
 .x 35 (.pick (.v 20) (.c (.bool true)) (.v 34)) <|
 .x 36 (.ia 1 (.v 14) (.v 15)) <|
 .o (.ex none (.store 1 (.v 36) (.v 35))) .done
abbrev K71_5:C:=.seq (.block 3 (.seq (.pl <| .e 14 3 <|
 .m 14 13 <|
 .x 15 (.ia 1 (.v 11) (.v 13)) <|
 .l 16 15 <|
 .m 7 14 <|
 .m 8 16 .done) K71_4)) K71_3
abbrev K71_6:C:=.seq (.cond 14 (.v 14) (.skip) (.exit 2)) K71_5
abbrev K71_7:C:=.seq (.pl <| .e 14 1 <|
 .x 14 (.bin .lss (.v 13) (.v 12)) .done) K71_6
abbrev K71_8:C:=.block 2 (.loop 14 [0,2,7,8] K71_7)
abbrev K71_9:Pl:=.x 12 (.lenV (.v 11)) <|
 .x 13 (.mv (.c (.int .i64 0))) .done
abbrev K71_10:Pl:=.c 11 (.call fn_impl_reachable [.v 14,.v 16]) K71_9
abbrev K71_11:C:=.seq (.pl <| .e 14 3 <|
 .m 14 3 <|
 .m 15 6 <|
 .c 16 (.bls 1 1 [.int .i64 0] [(0,1,.v 15)]) K71_10) K71_8
abbrev K71_12:C:=.seq (.block 1 (.seq (.pl <| .e 14 1 <|
 .m 14 10 <|
 .m 6 14 .done) K71_11)) K71_2
abbrev K71_13:C:=.seq (.cond 14 (.v 14) (.skip) (.exit 0)) K71_12
abbrev K71_14:C:=.seq (.pl <| .e 14 1 <|
 .x 14 (.bin .lss (.v 10) (.v 9)) .done) K71_13
abbrev K71_15:C:=.block 0 (.loop 14 [0,2,6,7,8,11,12,13] K71_14)
abbrev K71_16:C:=.seq (.seq (.pl <| .e 14 1 <|
 .m 14 3 <|
 .x 9 (.lenV (.v 14)) <|
 .x 10 (.mv (.c (.int .i64 0))) .done) K71_15) K71_1
abbrev K71_17:Pl:=.m 5 16 .done
abbrev K71_18:C:=.seq (.pl <| .e 14 3 <|
 .m 14 3 <|
 .x 15 (.lenV (.v 14)) <|
 .c 16 (.mks 1 1 [.bool false] (.v 15) (.v 15)) K71_17) K71_16
abbrev K71_19:Pl:=.m 4 15 .done
abbrev K71_20:C:=.seq (.pl <| .e 14 2 <|
 .m 14 3 <|
 .c 15 (.call fn_impl_cyclic [.v 14]) K71_19) K71_18
abbrev K71_21:Pl:=.m 3 15 .done
abbrev K71_22:C:=.seq (.pl <| .e 14 2 <|
 .o (.pget (some 14) none 1 0 (some 3)) <|
 .c 15 (.call fn_impl_Automaton_next [.v 14]) K71_21) K71_20
abbrev B_impl_Automaton_live:C:=.seq (.pl <| .e 14 0 <|
 .o (.pnew 1 (.v 0) []) <|
 .x 2 (.mv (.c (.slice none 0 0))) .done) K71_22
def R_impl_Automaton_live:FIR:=⟨B_impl_Automaton_live,14,[(2,none)]⟩
theorem IR_impl_Automaton_live:cfun Tryz.prog H_impl_Automaton_live Tryz.f71=some R_impl_Automaton_live:=by kernel_rfl
theorem EN_impl_Automaton_live:ENT Tryz.prog B_impl_Automaton_live [(2,none)] 1 14 fn_impl_Automaton_live:=fun hargs hw=>enter Tryz.func71 rfl IR_impl_Automaton_live hargs hw
def H_impl_ShortestBad:Hint:=⟨[(0,false),(1,false),(2,true),(4,false),(5,false),(6,true),(7,false),(8,false),(9,false),(10,false),(11,false),(12,false),(13,false),(59,false)],[[0,2,3,4,6,11,12,13],[0,2,3,4,6,11,12]]⟩
abbrev K19_1:C:=.seq (.pl <| .e 14 0 <|
 .x 3 (.mv (.c (.slice none 0 0))) <|
 .x 4 (.mv (.c (.bool false))) .done) (.ret)
abbrev K19_2:C:=.pl <| .e 14 2 <|
 .m 14 10 <|
 .x 15 (.bin .add (.v 14) (.c (.int .i64 1))) <|
 .m 10 15 .done
abbrev K19_3:C:=.pl <| .e 14 1 <|
 .x 14 (.bin .add (.v 13) (.c (.int .i64 1))) <|
 .m 13 14 .done
abbrev K19_4:Pl:=.m 9 17 .done
abbrev K19_5:C:=.pl <| .e 14 4 <|
 .m 14 9 <|
 .l 15 12 <|
 .o (.psl 16 [.slice none 0 0] [(0,1,.v 15)]) <|
 .c 17 (.app 24 1 [.slice none 0 0] (.o (.v 14)) (.p 1 16)) K19_4
abbrev K19_6:Pl:=.m 8 24 .done
abbrev K19_7:Pl:=.o (.psl 23 [.slice none 0 0] [(0,1,.v 22)]) <|
 .c 24 (.app 24 1 [.slice none 0 0] (.o (.v 14)) (.p 1 23)) K19_6
abbrev K19_8:Pl:=.m 20 11 <|
 .o (.psl 21 [.int .i64 0] [(0,1,.v 20)]) <|
 .c 22 (.app 8 1 [.int .i64 0] (.o (.v 19)) (.p 1 21)) K19_7
abbrev K19_9:C:=.seq (.pl <| .e 14 11 <|
 .m 14 8 <|
 .m 15 8 <|
 .m 16 10 <|
 .x 17 (.ia 1 (.v 15) (.v 16)) <|
 .l 18 17 <|
 .c 19 (.call fn_impl_clone_int [.v 18]) K19_8) K19_5
abbrev K19_10:C:=.cond 14 (.v 17) K19_9 (.skip)
abbrev K19_11:Pl:=.x 17 (.un .not (.v 16)) .done
abbrev K19_12:C:=.seq (.pl <| .e 14 4 <|
 .m 14 9 <|
 .x 15 (.mkf (.func fn_impl_ShortestBad_1) [] [.v 12]) <|
 .c 16 (.call fn_slices_ContainsFunc_S_S_bool_S_bool [.v 14,.v 15]) K19_11) K19_10
abbrev K19_13:Pl:=.st (.re 19 (.v 18) none none) <|
 .o (.ex none (.store 1 (.v 12) (.v 21))) .done
abbrev K19_14:Pl:=.c 12 (.alloc (.c (.slice none 0 0))) K19_13
abbrev K19_15:Pl:=.c 21 (.call fn_impl_Automaton_after [.v 14,.v 15,.v 19,.v 20]) K19_14
abbrev K19_16:Pl:=.o (.ex none (.store 1 (.v 12) (.v 21))) .done
abbrev K19_17:Pl:=.st (.re 19 (.v 18) none none) <|
 .c 21 (.call fn_impl_Automaton_after [.v 14,.v 15,.v 19,.v 20]) K19_16
abbrev K19_18:Pl:=.c 12 (.alloc (.c (.slice none 0 0))) K19_17
abbrev K19_19:C:=.seq (.pl <| .e 14 8 <|
 .o (.pget (some 14) none 5 0 (some 3)) <|
 .m 15 7 <|
 .m 16 9 <|
 .m 17 10 <|
 .x 18 (.ia 1 (.v 16) (.v 17)) <|
 .l 19 18 <|
 .m 20 11 <|
 .both K19_15 K19_18) K19_12
abbrev K19_20:C:=.seq (.block 3 (.seq (.pl <| .e 14 1 <|
 .m 14 13 <|
 .m 11 14 .done) K19_19)) K19_3
abbrev K19_21:C:=.seq (.cond 14 (.v 14) (.skip) (.exit 2)) K19_20
abbrev K19_22:C:=.seq (.pl <| .e 14 1 <|
 .x 14 (.bin .lss (.v 13) (.c (.int .i64 8))) .done) K19_21
abbrev K19_23:C:=.block 2 (.loop 14 [0,2,3,4,6,11,12] K19_22)
abbrev K19_24:C:=.seq (.pl <| .e 14 0 <|
 .x 13 (.mv (.c (.int .i64 0))) .done) K19_23
abbrev K19_25:C:=.cond 14 (.v 20) (.exit 1) (.skip)
abbrev K19_26:C:=.seq (.seq (.pl <| .e 14 7 <|
 .m 14 8 <|
 .m 15 10 <|
 .x 16 (.ia 1 (.v 14) (.v 15)) <|
 .l 17 16 <|
 .x 18 (.lenV (.v 17)) <|
 .m 19 1 <|
 .x 20 (.bin .geq (.v 18) (.v 19)) .done) K19_25) K19_24
abbrev K19_27:Pl:=.m 3 18 <|
 .x 4 (.mv (.c (.bool true))) .done
abbrev K19_28:C:=.seq (.pl <| .e 14 5 <|
 .m 14 8 <|
 .m 15 10 <|
 .x 16 (.ia 1 (.v 14) (.v 15)) <|
 .l 17 16 <|
 .c 18 (.call fn_impl_clone_int [.v 17]) K19_27) (.ret)
abbrev K19_29:C:=.cond 14 (.v 19) K19_28 (.skip)
abbrev K19_30:Pl:=.x 19 (.un .not (.v 18)) .done
abbrev K19_31:C:=.seq (.seq (.pl <| .e 14 6 <|
 .m 14 9 <|
 .m 15 10 <|
 .x 16 (.ia 1 (.v 14) (.v 15)) <|
 .l 17 16 <|
 .c 18 (.call fn_slices_Contains_S_bool_bool [.v 17,.c (.bool true)]) K19_30) K19_29) K19_26
abbrev K19_32:C:=.seq (.pl <| .e 14 0 <|
 .x 3 (.mv (.c (.slice none 0 0))) <|
 .x 4 (.mv (.c (.bool false))) .done) (.ret)
abbrev K19_33:C:=.cond 14 (.v 16) K19_32 (.skip)
abbrev K19_34:C:=.seq (.block 1 (.seq (.seq (.pl <| .e 14 3 <|
 .m 14 8 <|
 .x 15 (.lenV (.v 14)) <|
 .x 16 (.bin .gtr (.v 15) (.c (.int .i64 200))) .done) K19_33) K19_31)) K19_2
abbrev K19_35:C:=.cond 14 (.v 17) (.skip) (.exit 0)
abbrev K19_36:C:=.seq (.seq (.pl <| .e 14 4 <|
 .m 14 10 <|
 .m 15 8 <|
 .x 16 (.lenV (.v 15)) <|
 .x 17 (.bin .lss (.v 14) (.v 16)) .done) K19_35) K19_34
abbrev K19_37:C:=.block 0 (.loop 14 [0,2,3,4,6,11,12,13] K19_36)
abbrev K19_38:C:=.seq (.seq (.pl <| .e 14 0 <|
 .x 10 (.mv (.c (.int .i64 0))) .done) K19_37) K19_1
abbrev K19_39:Pl:=.m 9 17 .done
abbrev K19_40:Pl:=.c 17 (.bls 1 1 [.slice none 0 0] [(0,1,.v 16)]) K19_39
abbrev K19_41:C:=.seq (.pl <| .e 14 4 <|
 .o (.pget (some 14) none 5 0 (some 3)) <|
 .m 15 7 <|
 .c 16 (.call fn_impl_Automaton_begin [.v 14,.v 15]) K19_40) K19_38
abbrev K19_42:Pl:=.m 8 14 .done
abbrev K19_43:C:=.seq (.pl <| .e 14 1 <|
 .c 14 (.bls 1 1 [.slice none 0 0] [(0,1,.c (.slice none 0 0))]) K19_42) K19_41
abbrev K19_44:Pl:=.m 7 15 .done
abbrev K19_45:C:=.seq (.pl <| .e 14 2 <|
 .o (.pget (some 14) none 5 0 (some 3)) <|
 .c 15 (.call fn_impl_Automaton_live [.v 14]) K19_44) K19_43
abbrev K19_46:C:=.seq (.pl <| .e 14 0 <|
 .x 3 (.mv (.c (.slice none 0 0))) <|
 .x 4 (.mv (.c (.bool false))) .done) (.ret)
abbrev K19_47:C:=.cond 14 (.v 19) K19_46 (.skip)
abbrev K19_48:C:=.seq (.seq (.pl <| .e 14 6 <|
 .m 14 6 <|
 .x 15 (.un .not (.v 14)) <|
 .m 16 15 <|
 .n 16 (.px (some 17) (.mv (.v 1))) <|
 .n 16 (.px (some 18) (.bin .lss (.v 17) (.c (.int .i64 0)))) <|
 .x 19 (.pick (.v 16) (.c (.bool true)) (.v 18)) .done) K19_47) K19_45
abbrev K19_49:Pl:=.m 16 15 <|
 .x 17 (.extract 0 (.v 16)) <|
 .x 18 (.extract 1 (.v 16)) <|
 .o (.pnew 5 (.c (.agg #[.slice none 0 0,.slice none 0 0,.slice none 0 0])) []) <|
 .o (.pset none 5 0 3 (.v 17)) <|
 .m 6 18 .done
abbrev K19_50:C:=.seq (.pl <| .e 14 5 <|
 .o (.pget (some 14) none 2 0 (some 3)) <|
 .c 15 (.call fn_impl_TranslateFormula [.v 14]) K19_49) K19_48
abbrev B_impl_ShortestBad:C:=.seq (.pl <| .e 14 0 <|
 .o (.pnew 2 (.v 0) []) <|
 .x 3 (.mv (.c (.slice none 0 0))) <|
 .x 4 (.mv (.c (.bool false))) .done) K19_50
def R_impl_ShortestBad:FIR:=⟨B_impl_ShortestBad,14,[(3,none),(4,none)]⟩
theorem IR_impl_ShortestBad:cfun Tryz.prog H_impl_ShortestBad Tryz.f19=some R_impl_ShortestBad:=by kernel_rfl
theorem EN_impl_ShortestBad:ENT Tryz.prog B_impl_ShortestBad [(3,none),(4,none)] 2 14 fn_impl_ShortestBad:=fun hargs hw=>enter Tryz.func19 rfl IR_impl_ShortestBad hargs hw
def H_impl_ShortestBad_1:Hint:=⟨[(0,false),(1,false),(3,false)],[]⟩
abbrev K76_1:Pl:=.m 2 5 .done
abbrev K76_2:C:=.seq (.pl <| .e 3 3 <|
 .m 3 0 <|
 .l 4 1 <|
 .c 5 (.call fn_slices_Equal_S_bool_bool [.v 3,.v 4]) K76_1) (.ret)
abbrev B_impl_ShortestBad_1:C:=.seq (.pl <| .e 3 0 <|
 .x 2 (.mv (.c (.bool false))) .done) K76_2
def R_impl_ShortestBad_1:FIR:=⟨B_impl_ShortestBad_1,3,[(2,none)]⟩
theorem IR_impl_ShortestBad_1:cfun Tryz.prog H_impl_ShortestBad_1 Tryz.f76=some R_impl_ShortestBad_1:=by kernel_rfl
theorem EN_impl_ShortestBad_1:ENT Tryz.prog B_impl_ShortestBad_1 [(2,none)] 2 3 fn_impl_ShortestBad_1:=fun hargs hw=>enter Tryz.func76 rfl IR_impl_ShortestBad_1 hargs hw
def H_slices_ContainsFunc_S_S_bool_S_bool:Hint:=⟨[(0,false),(1,false),(4,false)],[]⟩
abbrev K75_1:Pl:=.x 6 (.bin .geq (.v 5) (.c (.int .i64 0))) <|
 .m 2 6 .done
abbrev K75_2:C:=.seq (.pl <| .e 3 4 <|
 .m 3 0 <|
 .m 4 1 <|
 .c 5 (.call fn_slices_IndexFunc_S_S_bool_S_bool [.v 3,.v 4]) K75_1) (.ret)
abbrev B_slices_ContainsFunc_S_S_bool_S_bool:C:=.seq (.pl <| .e 3 0 <|
 .x 2 (.mv (.c (.bool false))) .done) K75_2
def R_slices_ContainsFunc_S_S_bool_S_bool:FIR:=⟨B_slices_ContainsFunc_S_S_bool_S_bool,3,[(2,none)]⟩
theorem IR_slices_ContainsFunc_S_S_bool_S_bool:cfun Tryz.prog H_slices_ContainsFunc_S_S_bool_S_bool Tryz.f75=some R_slices_ContainsFunc_S_S_bool_S_bool:=by kernel_rfl
theorem EN_slices_ContainsFunc_S_S_bool_S_bool:ENT Tryz.prog B_slices_ContainsFunc_S_S_bool_S_bool [(2,none)] 2 3 fn_slices_ContainsFunc_S_S_bool_S_bool:=fun hargs hw=>enter Tryz.func75 rfl IR_slices_ContainsFunc_S_S_bool_S_bool hargs hw
def H_slices_Contains_S_bool_bool:Hint:=⟨[(0,false),(1,false),(4,false)],[]⟩
abbrev K73_1:Pl:=.x 6 (.bin .geq (.v 5) (.c (.int .i64 0))) <|
 .m 2 6 .done
abbrev K73_2:C:=.seq (.pl <| .e 3 4 <|
 .m 3 0 <|
 .m 4 1 <|
 .c 5 (.call fn_slices_Index_S_bool_bool [.v 3,.v 4]) K73_1) (.ret)
abbrev B_slices_Contains_S_bool_bool:C:=.seq (.pl <| .e 3 0 <|
 .x 2 (.mv (.c (.bool false))) .done) K73_2
def R_slices_Contains_S_bool_bool:FIR:=⟨B_slices_Contains_S_bool_bool,3,[(2,none)]⟩
theorem IR_slices_Contains_S_bool_bool:cfun Tryz.prog H_slices_Contains_S_bool_bool Tryz.f73=some R_slices_Contains_S_bool_bool:=by kernel_rfl
theorem EN_slices_Contains_S_bool_bool:ENT Tryz.prog B_slices_Contains_S_bool_bool [(2,none)] 2 3 fn_slices_Contains_S_bool_bool:=fun hargs hw=>enter Tryz.func73 rfl IR_slices_Contains_S_bool_bool hargs hw
def H_slices_IndexFunc_S_S_bool_S_bool:Hint:=⟨[(0,false),(1,false),(4,false),(5,false),(7,false),(8,false)],[[2,3]]⟩
abbrev K131_1:C:=.seq (.pl <| .e 6 0 <|
 .x 2 (.mv (.c (.int .i64 (-1)))) .done) (.ret)
abbrev K131_2:C:=.pl <| .e 6 1 <|
 .x 6 (.bin .add (.v 5) (.c (.int .i64 1))) <|
 .m 5 6 .done
abbrev K131_3:C:=.seq (.pl <| .e 6 1 <|
 .m 6 3 <|
 .m 2 6 .done) (.ret)
abbrev K131_4:C:=.cond 6 (.v 11) K131_3 (.skip)
abbrev K131_5:C:=.seq (.pl <| .e 6 6 <|
 .m 6 1 <|
 .m 7 0 <|
 .m 8 3 <|
 .x 9 (.ia 1 (.v 7) (.v 8)) <|
 .l 10 9 <|
 .c 11 (.callv (.v 6) [.v 10]) .done) K131_4
abbrev K131_6:C:=.seq (.block 1 (.seq (.pl <| .e 6 1 <|
 .m 6 5 <|
 .m 3 6 .done) K131_5)) K131_2
abbrev K131_7:C:=.seq (.cond 6 (.v 6) (.skip) (.exit 0)) K131_6
abbrev K131_8:C:=.seq (.pl <| .e 6 1 <|
 .x 6 (.bin .lss (.v 5) (.v 4)) .done) K131_7
abbrev K131_9:C:=.block 0 (.loop 6 [2,3] K131_8)
abbrev K131_10:C:=.seq (.seq (.pl <| .e 6 1 <|
 .m 6 0 <|
 .x 4 (.lenV (.v 6)) <|
 .x 5 (.mv (.c (.int .i64 0))) .done) K131_9) K131_1
abbrev B_slices_IndexFunc_S_S_bool_S_bool:C:=.seq (.pl <| .e 6 0 <|
 .x 2 (.mv (.c (.int .i64 0))) .done) K131_10
def R_slices_IndexFunc_S_S_bool_S_bool:FIR:=⟨B_slices_IndexFunc_S_S_bool_S_bool,6,[(2,none)]⟩
theorem IR_slices_IndexFunc_S_S_bool_S_bool:cfun Tryz.prog H_slices_IndexFunc_S_S_bool_S_bool Tryz.f131=some R_slices_IndexFunc_S_S_bool_S_bool:=by kernel_rfl
theorem EN_slices_IndexFunc_S_S_bool_S_bool:ENT Tryz.prog B_slices_IndexFunc_S_S_bool_S_bool [(2,none)] 2 6 fn_slices_IndexFunc_S_S_bool_S_bool:=fun hargs hw=>enter Tryz.func131 rfl IR_slices_IndexFunc_S_S_bool_S_bool hargs hw
def H_slices_Index_S_bool_bool:Hint:=⟨[(0,false),(1,false),(4,false),(5,false),(7,false),(8,false)],[[2,3]]⟩
abbrev K130_1:C:=.seq (.pl <| .e 6 0 <|
 .x 2 (.mv (.c (.int .i64 (-1)))) .done) (.ret)
abbrev K130_2:C:=.pl <| .e 6 1 <|
 .x 6 (.bin .add (.v 5) (.c (.int .i64 1))) <|
 .m 5 6 .done
abbrev K130_3:C:=.seq (.pl <| .e 6 1 <|
 .m 6 3 <|
 .m 2 6 .done) (.ret)
abbrev K130_4:C:=.cond 6 (.v 11) K130_3 (.skip)
abbrev K130_5:C:=.seq (.pl <| .e 6 6 <|
 .m 6 1 <|
 .m 7 0 <|
 .m 8 3 <|
 .x 9 (.ia 1 (.v 7) (.v 8)) <|
 .l 10 9 <|
 .x 11 (.eqb false (.v 6) (.v 10)) .done) K130_4
abbrev K130_6:C:=.seq (.block 1 (.seq (.pl <| .e 6 1 <|
 .m 6 5 <|
 .m 3 6 .done) K130_5)) K130_2
abbrev K130_7:C:=.seq (.cond 6 (.v 6) (.skip) (.exit 0)) K130_6
abbrev K130_8:C:=.seq (.pl <| .e 6 1 <|
 .x 6 (.bin .lss (.v 5) (.v 4)) .done) K130_7
abbrev K130_9:C:=.block 0 (.loop 6 [2,3] K130_8)
abbrev K130_10:C:=.seq (.seq (.pl <| .e 6 1 <|
 .m 6 0 <|
 .x 4 (.lenV (.v 6)) <|
 .x 5 (.mv (.c (.int .i64 0))) .done) K130_9) K130_1
abbrev B_slices_Index_S_bool_bool:C:=.seq (.pl <| .e 6 0 <|
 .x 2 (.mv (.c (.int .i64 0))) .done) K130_10
def R_slices_Index_S_bool_bool:FIR:=⟨B_slices_Index_S_bool_bool,6,[(2,none)]⟩
theorem IR_slices_Index_S_bool_bool:cfun Tryz.prog H_slices_Index_S_bool_bool Tryz.f130=some R_slices_Index_S_bool_bool:=by kernel_rfl
theorem EN_slices_Index_S_bool_bool:ENT Tryz.prog B_slices_Index_S_bool_bool [(2,none)] 2 6 fn_slices_Index_S_bool_bool:=fun hargs hw=>enter Tryz.func130 rfl IR_slices_Index_S_bool_bool hargs hw
def H_spec_AutomatonValid:Hint:=⟨[(0,false),(1,true),(2,false),(3,false),(4,false),(5,false)],[[0,2,5],[0,2,4]]⟩
abbrev K123_1:C:=.seq (.pl <| .e 6 0 <|
 .x 2 (.mv (.c (.bool true))) .done) (.ret)
abbrev K123_2:C:=.pl <| .e 6 2 <|
 .m 6 5 <|
 .x 7 (.bin .add (.v 6) (.c (.int .i64 1))) <|
 .m 5 7 .done
abbrev K123_3:C:=.seq (.pl <| .e 6 0 <|
 .x 2 (.mv (.c (.bool false))) .done) (.ret)
abbrev K123_4:C:=.cond 6 (.v 13) K123_3 (.skip)
abbrev K123_5:Pl:=.x 13 (.un .not (.v 12)) .done
abbrev K123_6:C:=.seq (.block 3 (.seq (.pl <| .e 6 8 <|
 .a 6 1 <|
 .g 7 6 1 2 <|
 .m 8 5 <|
 .x 9 (.ia 4 (.v 7) (.v 8)) <|
 .o (.ld (some 10) (.v 9) (some 4)) <|
 .m 11 3 <|
 .c 12 (.call fn_spec_l7Edge [.v 10,.v 11]) K123_5) K123_4)) K123_2
abbrev K123_7:C:=.cond 6 (.v 10) (.skip) (.exit 2)
abbrev K123_8:C:=.seq (.seq (.pl <| .e 6 5 <|
 .m 6 5 <|
 .a 7 1 <|
 .g 8 7 1 2 <|
 .x 9 (.lenV (.v 8)) <|
 .x 10 (.bin .lss (.v 6) (.v 9)) .done) K123_7) K123_6
abbrev K123_9:C:=.block 2 (.loop 6 [0,2,4] K123_8)
abbrev K123_10:C:=.seq (.seq (.pl <| .e 6 0 <|
 .x 5 (.mv (.c (.int .i64 0))) .done) K123_9) K123_1
abbrev K123_11:C:=.pl <| .e 6 2 <|
 .m 6 4 <|
 .x 7 (.bin .add (.v 6) (.c (.int .i64 1))) <|
 .m 4 7 .done
abbrev K123_12:C:=.seq (.pl <| .e 6 0 <|
 .x 2 (.mv (.c (.bool false))) .done) (.ret)
abbrev K123_13:C:=.cond 6 (.v 38) K123_12 (.skip)
abbrev K123_14:C:=.seq (.block 1 (.seq (.pl <| .e 6 33 <|
 .a 6 1 <|
 .g 7 6 1 0 <|
 .m 8 4 <|
 .x 9 (.ia 1 (.v 7) (.v 8)) <|
 .l 10 9 <|
 .x 11 (.bin .lss (.v 10) (.c (.int .i64 0))) <|
 .m 12 11 <|
 .n 12 (.als 13 none 1) <|
 .n 12 (.pget (some 14) (some 13) 1 0 none) <|
 .n 12 (.px (some 15) (.mv (.v 4))) <|
 .n 12 (.px (some 16) (.ia 1 (.v 14) (.v 15))) <|
 .n 12 (.ld (some 17) (.v 16) none) <|
 .n 12 (.px (some 18) (.mv (.v 3))) <|
 .n 12 (.px (some 19) (.bin .geq (.v 17) (.v 18))) <|
 .x 20 (.pick (.v 12) (.c (.bool true)) (.v 19)) <|
 .m 21 20 <|
 .n 21 (.px (some 22) (.mv (.v 4))) <|
 .n 21 (.px (some 23) (.bin .gtr (.v 22) (.c (.int .i64 0)))) <|
 .n 21 (.px (some 24) (.mv (.v 23))) <|
 .y 24 (.als 25 none 1) <|
 .y 24 (.pget (some 26) (some 25) 1 0 none) <|
 .y 24 (.px (some 27) (.mv (.v 4))) <|
 .y 24 (.px (some 28) (.bin .sub (.v 27) (.c (.int .i64 1)))) <|
 .y 24 (.px (some 29) (.ia 1 (.v 26) (.v 28))) <|
 .y 24 (.ld (some 30) (.v 29) none) <|
 .y 24 (.als 31 none 1) <|
 .y 24 (.pget (some 32) (some 31) 1 0 none) <|
 .y 24 (.px (some 33) (.mv (.v 4))) <|
 .y 24 (.px (some 34) (.ia 1 (.v 32) (.v 33))) <|
 .y 24 (.ld (some 35) (.v 34) none) <|
 .y 24 (.px (some 36) (.bin .geq (.v 30) (.v 35))) <|
 .n 21 (.px (some 37) (.pick (.v 24) (.v 36) (.c (.bool false)))) <|
 .x 38 (.pick (.v 21) (.c (.bool true)) (.v 37)) .done) K123_13)) K123_11
abbrev K123_15:C:=.cond 6 (.v 10) (.skip) (.exit 0)
abbrev K123_16:C:=.seq (.seq (.pl <| .e 6 5 <|
 .m 6 4 <|
 .a 7 1 <|
 .g 8 7 1 0 <|
 .x 9 (.lenV (.v 8)) <|
 .x 10 (.bin .lss (.v 6) (.v 9)) .done) K123_15) K123_14
abbrev K123_17:C:=.block 0 (.loop 6 [0,2,5] K123_16)
abbrev K123_18:C:=.seq (.seq (.pl <| .e 6 0 <|
 .x 4 (.mv (.c (.int .i64 0))) .done) K123_17) K123_10
abbrev K123_19:C:=.seq (.pl <| .e 6 0 <|
 .x 2 (.mv (.c (.bool false))) .done) (.ret)
abbrev K123_20:C:=.cond 6 (.v 24) K123_19 (.skip)
abbrev K123_21:C:=.seq (.seq (.pl <| .e 6 19 <|
 .m 6 3 <|
 .x 7 (.bin .lss (.v 6) (.c (.int .i64 1))) <|
 .m 8 7 <|
 .n 8 (.px (some 9) (.mv (.v 3))) <|
 .n 8 (.px (some 10) (.bin .gtr (.v 9) (.c (.int .i64 64)))) <|
 .x 11 (.pick (.v 8) (.c (.bool true)) (.v 10)) <|
 .m 12 11 <|
 .n 12 (.als 13 none 1) <|
 .n 12 (.pget (some 14) (some 13) 1 0 none) <|
 .n 12 (.px (some 15) (.lenV (.v 14))) <|
 .n 12 (.px (some 16) (.mv (.v 3))) <|
 .n 12 (.px (some 17) (.bin .gtr (.v 15) (.v 16))) <|
 .x 18 (.pick (.v 12) (.c (.bool true)) (.v 17)) <|
 .m 19 18 <|
 .n 19 (.als 20 none 1) <|
 .n 19 (.pget (some 21) (some 20) 1 2 none) <|
 .n 19 (.px (some 22) (.lenV (.v 21))) <|
 .n 19 (.px (some 23) (.bin .gtr (.v 22) (.c (.int .i64 2048)))) <|
 .x 24 (.pick (.v 19) (.c (.bool true)) (.v 23)) .done) K123_20) K123_18
abbrev K123_22:C:=.seq (.pl <| .e 6 3 <|
 .a 6 1 <|
 .g 7 6 1 1 <|
 .x 8 (.lenV (.v 7)) <|
 .m 3 8 .done) K123_21
abbrev B_spec_AutomatonValid:C:=.seq (.pl <| .e 6 0 <|
 .o (.pnew 1 (.v 0) []) <|
 .x 2 (.mv (.c (.bool false))) .done) K123_22
def R_spec_AutomatonValid:FIR:=⟨B_spec_AutomatonValid,6,[(2,none)]⟩
theorem IR_spec_AutomatonValid:cfun Tryz.prog H_spec_AutomatonValid Tryz.f123=some R_spec_AutomatonValid:=by kernel_rfl
theorem EN_spec_AutomatonValid:ENT Tryz.prog B_spec_AutomatonValid [(2,none)] 1 6 fn_spec_AutomatonValid:=fun hargs hw=>enter Tryz.func123 rfl IR_spec_AutomatonValid hargs hw
def H_spec_LiveStates:Hint:=⟨[(0,false),(1,true),(2,false),(3,false),(4,false),(5,false),(6,false),(7,false),(8,false)],[[0,2,6,7,8],[0,2]]⟩
abbrev K67_1:C:=.seq (.pl <| .e 9 1 <|
 .m 9 3 <|
 .m 2 9 .done) (.ret)
abbrev K67_2:C:=.pl <| .e 9 2 <|
 .m 9 5 <|
 .x 10 (.bin .add (.v 9) (.c (.int .i64 1))) <|
 .m 5 10 .done
abbrev K67_3:Pl:=.m 3 12 .done
abbrev K67_4:C:=.pl <| .e 9 4 <|
 .m 9 3 <|
 .m 10 7 <|
 .o (.psl 11 [.bool false] [(0,1,.v 10)]) <|
 .c 12 (.app 1 1 [.bool false] (.o (.v 9)) (.p 1 11)) K67_3
abbrev K67_5:C:=.pl <| .e 9 2 <|
 .m 9 8 <|
 .x 10 (.bin .add (.v 9) (.c (.int .i64 1))) <|
 .m 8 10 .done
abbrev K67_6:Pl:=.x 24 (.pick (.v 17) (.v 23) (.c (.bool false))) <|
 .m 7 24 .done
abbrev K67_7:C:=.seq (.block 3 (.pl <| .e 9 16 <|
 .a 9 1 <|
 .g 10 9 1 1 <|
 .m 11 6 <|
 .m 12 8 <|
 .x 13 (.ia 1 (.v 11) (.v 12)) <|
 .l 14 13 <|
 .x 15 (.ia 1 (.v 10) (.v 14)) <|
 .l 16 15 <|
 .m 17 16 <|
 .y 17 (.px (some 18) (.mv (.v 4))) <|
 .y 17 (.px (some 19) (.mv (.v 6))) <|
 .y 17 (.px (some 20) (.mv (.v 8))) <|
 .y 17 (.px (some 21) (.ia 1 (.v 19) (.v 20))) <|
 .y 17 (.ld (some 22) (.v 21) none) <|
 .st (.act (some (.v 17,true)) (.ex (some 23) (.call fn_spec_l7Loop [.v 18,.v 22]))) K67_6)) K67_5
abbrev K67_8:C:=.cond 9 (.v 16) (.skip) (.exit 2)
abbrev K67_9:C:=.seq (.seq (.pl <| .e 9 8 <|
 .m 9 8 <|
 .m 10 6 <|
 .x 11 (.lenV (.v 10)) <|
 .x 12 (.bin .lss (.v 9) (.v 11)) <|
 .m 13 12 <|
 .y 13 (.px (some 14) (.mv (.v 7))) <|
 .y 13 (.px (some 15) (.un .not (.v 14))) <|
 .x 16 (.pick (.v 13) (.v 15) (.c (.bool false))) .done) K67_8) K67_7
abbrev K67_10:C:=.block 2 (.loop 9 [0,2] K67_9)
abbrev K67_11:C:=.seq (.seq (.pl <| .e 9 0 <|
 .x 8 (.mv (.c (.int .i64 0))) .done) K67_10) K67_4
abbrev K67_12:C:=.seq (.pl <| .e 9 0 <|
 .x 7 (.mv (.c (.bool false))) .done) K67_11
abbrev K67_13:Pl:=.m 6 12 .done
abbrev K67_14:Pl:=.c 12 (.call fn_spec_l7Reach [.v 9,.v 11]) K67_13
abbrev K67_15:C:=.seq (.block 1 (.seq (.pl <| .e 9 4 <|
 .m 9 4 <|
 .m 10 5 <|
 .c 11 (.bls 1 1 [.int .i64 0] [(0,1,.v 10)]) K67_14) K67_12)) K67_2
abbrev K67_16:C:=.cond 9 (.v 13) (.skip) (.exit 0)
abbrev K67_17:C:=.seq (.seq (.pl <| .e 9 5 <|
 .m 9 5 <|
 .a 10 1 <|
 .g 11 10 1 1 <|
 .x 12 (.lenV (.v 11)) <|
 .x 13 (.bin .lss (.v 9) (.v 12)) .done) K67_16) K67_15
abbrev K67_18:C:=.block 0 (.loop 9 [0,2,6,7,8] K67_17)
abbrev K67_19:C:=.seq (.seq (.pl <| .e 9 0 <|
 .x 5 (.mv (.c (.int .i64 0))) .done) K67_18) K67_1
abbrev K67_20:Pl:=.m 4 10 .done
abbrev K67_21:C:=.seq (.pl <| .e 9 2 <|
 .o (.pget (some 9) none 1 0 (some 3)) <|
 .c 10 (.call fn_spec_l7Next [.v 9]) K67_20) K67_19
abbrev K67_22:C:=.seq (.pl <| .e 9 1 <|
 .m 9 3 <|
 .m 2 9 .done) (.ret)
abbrev K67_23:C:=.cond 9 (.v 11) K67_22 (.skip)
abbrev K67_24:Pl:=.x 11 (.un .not (.v 10)) .done
abbrev K67_25:C:=.seq (.seq (.pl <| .e 9 3 <|
 .o (.pget (some 9) none 1 0 (some 3)) <|
 .c 10 (.call fn_spec_AutomatonValid [.v 9]) K67_24) K67_23) K67_21
abbrev K67_26:Pl:=.m 3 9 .done
abbrev K67_27:C:=.seq (.pl <| .e 9 1 <|
 .c 9 (.bls 1 0 [.bool false] []) K67_26) K67_25
abbrev B_spec_LiveStates:C:=.seq (.pl <| .e 9 0 <|
 .o (.pnew 1 (.v 0) []) <|
 .x 2 (.mv (.c (.slice none 0 0))) .done) K67_27
def R_spec_LiveStates:FIR:=⟨B_spec_LiveStates,9,[(2,none)]⟩
theorem IR_spec_LiveStates:cfun Tryz.prog H_spec_LiveStates Tryz.f67=some R_spec_LiveStates:=by kernel_rfl
theorem EN_spec_LiveStates:ENT Tryz.prog B_spec_LiveStates [(2,none)] 1 9 fn_spec_LiveStates:=fun hargs hw=>enter Tryz.func67 rfl IR_spec_LiveStates hargs hw
def H_spec_ShortestBad:Hint:=⟨[(0,false),(1,false),(2,true),(4,false),(5,false),(6,true),(7,false),(8,false),(9,false),(10,false),(11,false),(12,false),(13,false),(15,false)],[[0,2,3,4,6,11,12,13],[0,2,3,4,6,12,13]]⟩
abbrev K17_1:Pl:=.m 3 14 <|
 .x 4 (.mv (.c (.bool false))) .done
abbrev K17_2:C:=.seq (.pl <| .e 14 1 <|
 .c 14 (.bls 1 0 [.int .i64 0] []) K17_1) (.ret)
abbrev K17_3:C:=.pl <| .e 14 2 <|
 .m 14 10 <|
 .x 15 (.bin .add (.v 14) (.c (.int .i64 1))) <|
 .m 10 15 .done
abbrev K17_4:C:=.pl <| .e 14 2 <|
 .m 14 11 <|
 .x 15 (.bin .add (.v 14) (.c (.int .i64 1))) <|
 .m 11 15 .done
abbrev K17_5:Pl:=.m 8 25 .done
abbrev K17_6:Pl:=.o (.psl 24 [.slice none 0 0] [(0,1,.v 23)]) <|
 .c 25 (.app 24 1 [.slice none 0 0] (.o (.v 14)) (.p 1 24)) K17_5
abbrev K17_7:Pl:=.m 21 11 <|
 .o (.psl 22 [.int .i64 0] [(0,1,.v 21)]) <|
 .c 23 (.app 8 1 [.int .i64 0] (.o (.v 20)) (.p 1 22)) K17_6
abbrev K17_8:C:=.pl <| .e 14 12 <|
 .m 14 8 <|
 .o (.psl 15 [] []) <|
 .m 16 8 <|
 .m 17 10 <|
 .x 18 (.ia 1 (.v 16) (.v 17)) <|
 .l 19 18 <|
 .c 20 (.app 8 1 [.int .i64 0] (.p 0 15) (.o (.v 19))) K17_7
abbrev K17_9:Pl:=.m 9 17 .done
abbrev K17_10:C:=.seq (.pl <| .e 14 4 <|
 .m 14 9 <|
 .m 15 12 <|
 .o (.psl 16 [.slice none 0 0] [(0,1,.v 15)]) <|
 .c 17 (.app 24 1 [.slice none 0 0] (.o (.v 14)) (.p 1 16)) K17_9) K17_8
abbrev K17_11:C:=.cond 14 (.v 17) K17_10 (.skip)
abbrev K17_12:C:=.seq (.pl <| .e 14 4 <|
 .m 14 13 <|
 .m 15 9 <|
 .x 16 (.lenV (.v 15)) <|
 .x 17 (.bin .eql (.v 14) (.v 16)) .done) K17_11
abbrev K17_13:Pl:=.m 17 16 <|
 .x 18 (.extract 0 (.v 17)) <|
 .x 19 (.extract 1 (.v 17)) <|
 .m 20 18 <|
 .m 13 19 .done
abbrev K17_14:C:=.seq (.pl <| .e 14 7 <|
 .m 14 9 <|
 .m 15 12 <|
 .c 16 (.call fn_spec_l7Pair [.v 14,.v 15]) K17_13) K17_12
abbrev K17_15:Pl:=.m 12 22 .done
abbrev K17_16:Pl:=.c 22 (.call fn_spec_l12Only [.v 20,.v 21]) K17_15
abbrev K17_17:C:=.seq (.block 3 (.seq (.pl <| .e 14 9 <|
 .o (.pget (some 14) none 5 0 (some 3)) <|
 .m 15 9 <|
 .m 16 10 <|
 .x 17 (.ia 1 (.v 15) (.v 16)) <|
 .l 18 17 <|
 .m 19 11 <|
 .m 21 7 <|
 .c 20 (.call fn_spec_l12Step [.v 14,.v 18,.v 19]) K17_16) K17_14)) K17_4
abbrev K17_18:C:=.cond 14 (.v 15) (.skip) (.exit 2)
abbrev K17_19:C:=.seq (.seq (.pl <| .e 14 2 <|
 .m 14 11 <|
 .x 15 (.bin .leq (.v 14) (.c (.int .i64 7))) .done) K17_18) K17_17
abbrev K17_20:C:=.block 2 (.loop 14 [0,2,3,4,6,12,13] K17_19)
abbrev K17_21:C:=.seq (.pl <| .e 14 0 <|
 .x 11 (.mv (.c (.int .i64 0))) .done) K17_20
abbrev K17_22:C:=.cond 14 (.v 20) (.exit 1) (.skip)
abbrev K17_23:C:=.seq (.seq (.pl <| .e 14 7 <|
 .m 14 8 <|
 .m 15 10 <|
 .x 16 (.ia 1 (.v 14) (.v 15)) <|
 .l 17 16 <|
 .x 18 (.lenV (.v 17)) <|
 .m 19 1 <|
 .x 20 (.bin .geq (.v 18) (.v 19)) .done) K17_22) K17_21
abbrev K17_24:C:=.seq (.pl <| .e 14 4 <|
 .m 14 8 <|
 .m 15 10 <|
 .x 16 (.ia 1 (.v 14) (.v 15)) <|
 .l 17 16 <|
 .m 3 17 <|
 .x 4 (.mv (.c (.bool true))) .done) (.ret)
abbrev K17_25:C:=.cond 14 (.v 19) K17_24 (.skip)
abbrev K17_26:C:=.seq (.block 1 (.seq (.seq (.pl <| .e 14 6 <|
 .m 14 9 <|
 .m 15 10 <|
 .x 16 (.ia 1 (.v 14) (.v 15)) <|
 .l 17 16 <|
 .x 18 (.lenV (.v 17)) <|
 .x 19 (.bin .eql (.v 18) (.c (.int .i64 0))) .done) K17_25) K17_23)) K17_3
abbrev K17_27:C:=.cond 14 (.v 22) (.skip) (.exit 0)
abbrev K17_28:C:=.seq (.seq (.pl <| .e 14 9 <|
 .m 14 10 <|
 .m 15 8 <|
 .x 16 (.lenV (.v 15)) <|
 .x 17 (.bin .lss (.v 14) (.v 16)) <|
 .m 18 17 <|
 .y 18 (.px (some 19) (.mv (.v 8))) <|
 .y 18 (.px (some 20) (.lenV (.v 19))) <|
 .y 18 (.px (some 21) (.bin .leq (.v 20) (.c (.int .i64 200)))) <|
 .x 22 (.pick (.v 18) (.v 21) (.c (.bool false))) .done) K17_27) K17_26
abbrev K17_29:C:=.block 0 (.loop 14 [0,2,3,4,6,11,12,13] K17_28)
abbrev K17_30:C:=.seq (.seq (.pl <| .e 14 0 <|
 .x 10 (.mv (.c (.int .i64 0))) .done) K17_29) K17_2
abbrev K17_31:Pl:=.m 9 18 .done
abbrev K17_32:Pl:=.c 18 (.bls 1 1 [.slice none 0 0] [(0,1,.v 17)]) K17_31
abbrev K17_33:C:=.seq (.pl <| .e 14 5 <|
 .a 14 5 <|
 .g 15 14 5 0 <|
 .m 16 7 <|
 .c 17 (.call fn_spec_l12Only [.v 15,.v 16]) K17_32) K17_30
abbrev K17_34:Pl:=.m 8 15 .done
abbrev K17_35:Pl:=.c 15 (.bls 1 1 [.slice none 0 0] [(0,1,.v 14)]) K17_34
abbrev K17_36:C:=.seq (.pl <| .e 14 2 <|
 .c 14 (.bls 1 0 [.int .i64 0] []) K17_35) K17_33
abbrev K17_37:Pl:=.m 7 15 .done
abbrev K17_38:C:=.seq (.pl <| .e 14 2 <|
 .o (.pget (some 14) none 5 0 (some 3)) <|
 .c 15 (.call fn_spec_LiveStates [.v 14]) K17_37) K17_36
abbrev K17_39:Pl:=.m 3 14 <|
 .x 4 (.mv (.c (.bool false))) .done
abbrev K17_40:C:=.seq (.pl <| .e 14 1 <|
 .c 14 (.bls 1 0 [.int .i64 0] []) K17_39) (.ret)
abbrev K17_41:C:=.cond 14 (.v 19) K17_40 (.skip)
abbrev K17_42:C:=.seq (.seq (.pl <| .e 14 6 <|
 .m 14 6 <|
 .x 15 (.un .not (.v 14)) <|
 .m 16 15 <|
 .n 16 (.px (some 17) (.mv (.v 1))) <|
 .n 16 (.px (some 18) (.bin .lss (.v 17) (.c (.int .i64 0)))) <|
 .x 19 (.pick (.v 16) (.c (.bool true)) (.v 18)) .done) K17_41) K17_38
abbrev K17_43:Pl:=.m 16 15 <|
 .x 17 (.extract 0 (.v 16)) <|
 .x 18 (.extract 1 (.v 16)) <|
 .o (.pnew 5 (.c (.agg #[.slice none 0 0,.slice none 0 0,.slice none 0 0])) []) <|
 .o (.pset none 5 0 3 (.v 17)) <|
 .m 6 18 .done
abbrev K17_44:C:=.seq (.pl <| .e 14 5 <|
 .o (.pget (some 14) none 2 0 (some 3)) <|
 .c 15 (.call fn_spec_TranslateFormula [.v 14]) K17_43) K17_42
abbrev B_spec_ShortestBad:C:=.seq (.pl <| .e 14 0 <|
 .o (.pnew 2 (.v 0) []) <|
 .x 3 (.mv (.c (.slice none 0 0))) <|
 .x 4 (.mv (.c (.bool false))) .done) K17_44
def R_spec_ShortestBad:FIR:=⟨B_spec_ShortestBad,14,[(3,none),(4,none)]⟩
theorem IR_spec_ShortestBad:cfun Tryz.prog H_spec_ShortestBad Tryz.f17=some R_spec_ShortestBad:=by kernel_rfl
theorem EN_spec_ShortestBad:ENT Tryz.prog B_spec_ShortestBad [(3,none),(4,none)] 2 14 fn_spec_ShortestBad:=fun hargs hw=>enter Tryz.func17 rfl IR_spec_ShortestBad hargs hw
def H_spec_l10Sorted:Hint:=⟨[(0,false),(1,false),(4,false),(5,false),(6,false),(7,false)],[[2]]⟩
abbrev K129_1:C:=.seq (.pl <| .e 6 1 <|
 .m 6 3 <|
 .m 2 6 .done) (.ret)
abbrev K129_2:Pl:=.m 3 9 .done
abbrev K129_3:C:=.pl <| .e 6 4 <|
 .m 6 3 <|
 .m 7 1 <|
 .o (.psl 8 [.int .i64 0] [(0,1,.v 7)]) <|
 .c 9 (.app 8 1 [.int .i64 0] (.o (.v 6)) (.p 1 8)) K129_2
abbrev K129_4:C:=.cond 6 (.v 7) K129_3 (.skip)
abbrev K129_5:C:=.seq (.seq (.pl <| .e 6 2 <|
 .m 6 4 <|
 .x 7 (.un .not (.v 6)) .done) K129_4) K129_1
abbrev K129_6:C:=.pl <| .e 6 2 <|
 .m 6 5 <|
 .x 7 (.bin .add (.v 6) (.c (.int .i64 1))) <|
 .m 5 7 .done
abbrev K129_7:Pl:=.m 3 12 .done
abbrev K129_8:C:=.pl <| .e 6 7 <|
 .m 6 3 <|
 .m 7 0 <|
 .m 8 5 <|
 .x 9 (.ia 1 (.v 7) (.v 8)) <|
 .l 10 9 <|
 .o (.psl 11 [.int .i64 0] [(0,1,.v 10)]) <|
 .c 12 (.app 8 1 [.int .i64 0] (.o (.v 6)) (.p 1 11)) K129_7
abbrev K129_9:C:=.pl <| .e 6 0 <|
 .x 4 (.mv (.c (.bool true))) .done
abbrev K129_10:Pl:=.m 3 9 .done
abbrev K129_11:C:=.seq (.pl <| .e 6 4 <|
 .m 6 3 <|
 .m 7 1 <|
 .o (.psl 8 [.int .i64 0] [(0,1,.v 7)]) <|
 .c 9 (.app 8 1 [.int .i64 0] (.o (.v 6)) (.p 1 8)) K129_10) K129_9
abbrev K129_12:C:=.cond 6 (.v 15) K129_11 (.skip)
abbrev K129_13:C:=.seq (.seq (.pl <| .e 6 10 <|
 .m 6 0 <|
 .m 7 5 <|
 .x 8 (.ia 1 (.v 6) (.v 7)) <|
 .l 9 8 <|
 .m 10 1 <|
 .x 11 (.bin .gtr (.v 9) (.v 10)) <|
 .m 12 11 <|
 .y 12 (.px (some 13) (.mv (.v 4))) <|
 .y 12 (.px (some 14) (.un .not (.v 13))) <|
 .x 15 (.pick (.v 12) (.v 14) (.c (.bool false))) .done) K129_12) K129_8
abbrev K129_14:C:=.seq (.pl <| .e 6 1 <|
 .m 6 0 <|
 .m 2 6 .done) (.ret)
abbrev K129_15:C:=.cond 6 (.v 11) K129_14 (.skip)
abbrev K129_16:C:=.seq (.block 1 (.seq (.seq (.pl <| .e 6 6 <|
 .m 6 0 <|
 .m 7 5 <|
 .x 8 (.ia 1 (.v 6) (.v 7)) <|
 .l 9 8 <|
 .m 10 1 <|
 .x 11 (.bin .eql (.v 9) (.v 10)) .done) K129_15) K129_13)) K129_6
abbrev K129_17:C:=.cond 6 (.v 9) (.skip) (.exit 0)
abbrev K129_18:C:=.seq (.seq (.pl <| .e 6 4 <|
 .m 6 5 <|
 .m 7 0 <|
 .x 8 (.lenV (.v 7)) <|
 .x 9 (.bin .lss (.v 6) (.v 8)) .done) K129_17) K129_16
abbrev K129_19:C:=.block 0 (.loop 6 [2] K129_18)
abbrev K129_20:C:=.seq (.seq (.pl <| .e 6 0 <|
 .x 5 (.mv (.c (.int .i64 0))) .done) K129_19) K129_5
abbrev K129_21:C:=.seq (.pl <| .e 6 0 <|
 .x 4 (.mv (.c (.bool false))) .done) K129_20
abbrev K129_22:Pl:=.m 3 6 .done
abbrev K129_23:C:=.seq (.pl <| .e 6 1 <|
 .c 6 (.bls 1 0 [.int .i64 0] []) K129_22) K129_21
abbrev B_spec_l10Sorted:C:=.seq (.pl <| .e 6 0 <|
 .x 2 (.mv (.c (.slice none 0 0))) .done) K129_23
def R_spec_l10Sorted:FIR:=⟨B_spec_l10Sorted,6,[(2,none)]⟩
theorem IR_spec_l10Sorted:cfun Tryz.prog H_spec_l10Sorted Tryz.f129=some R_spec_l10Sorted:=by kernel_rfl
theorem EN_spec_l10Sorted:ENT Tryz.prog B_spec_l10Sorted [(2,none)] 2 6 fn_spec_l10Sorted:=fun hargs hw=>enter Tryz.func129 rfl IR_spec_l10Sorted hargs hw
def H_spec_l12Only:Hint:=⟨[(0,false),(1,false),(4,false),(5,false),(6,false)],[[2]]⟩
abbrev K68_1:C:=.seq (.pl <| .e 5 1 <|
 .m 5 3 <|
 .m 2 5 .done) (.ret)
abbrev K68_2:C:=.pl <| .e 5 2 <|
 .m 5 4 <|
 .x 6 (.bin .add (.v 5) (.c (.int .i64 1))) <|
 .m 4 6 .done
abbrev K68_3:Pl:=.m 3 11 .done
abbrev K68_4:C:=.pl <| .e 5 7 <|
 .m 5 3 <|
 .m 6 0 <|
 .m 7 4 <|
 .x 8 (.ia 1 (.v 6) (.v 7)) <|
 .l 9 8 <|
 .o (.psl 10 [.int .i64 0] [(0,1,.v 9)]) <|
 .c 11 (.app 8 1 [.int .i64 0] (.o (.v 5)) (.p 1 10)) K68_3
abbrev K68_5:C:=.cond 5 (.v 11) K68_4 (.skip)
abbrev K68_6:C:=.seq (.block 1 (.seq (.pl <| .e 5 7 <|
 .m 5 1 <|
 .m 6 0 <|
 .m 7 4 <|
 .x 8 (.ia 1 (.v 6) (.v 7)) <|
 .l 9 8 <|
 .x 10 (.ia 1 (.v 5) (.v 9)) <|
 .l 11 10 .done) K68_5)) K68_2
abbrev K68_7:C:=.cond 5 (.v 8) (.skip) (.exit 0)
abbrev K68_8:C:=.seq (.seq (.pl <| .e 5 4 <|
 .m 5 4 <|
 .m 6 0 <|
 .x 7 (.lenV (.v 6)) <|
 .x 8 (.bin .lss (.v 5) (.v 7)) .done) K68_7) K68_6
abbrev K68_9:C:=.block 0 (.loop 5 [2] K68_8)
abbrev K68_10:C:=.seq (.seq (.pl <| .e 5 0 <|
 .x 4 (.mv (.c (.int .i64 0))) .done) K68_9) K68_1
abbrev K68_11:Pl:=.m 3 5 .done
abbrev K68_12:C:=.seq (.pl <| .e 5 1 <|
 .c 5 (.bls 1 0 [.int .i64 0] []) K68_11) K68_10
abbrev B_spec_l12Only:C:=.seq (.pl <| .e 5 0 <|
 .x 2 (.mv (.c (.slice none 0 0))) .done) K68_12
def R_spec_l12Only:FIR:=⟨B_spec_l12Only,5,[(2,none)]⟩
theorem IR_spec_l12Only:cfun Tryz.prog H_spec_l12Only Tryz.f68=some R_spec_l12Only:=by kernel_rfl
theorem EN_spec_l12Only:ENT Tryz.prog B_spec_l12Only [(2,none)] 2 5 fn_spec_l12Only:=fun hargs hw=>enter Tryz.func68 rfl IR_spec_l12Only hargs hw
def H_spec_l12Step:Hint:=⟨[(0,false),(1,false),(2,false),(3,true),(6,false),(7,false),(8,false)],[[0,4]]⟩
abbrev K69_1:C:=.seq (.pl <| .e 7 1 <|
 .m 7 5 <|
 .m 4 7 .done) (.ret)
abbrev K69_2:C:=.pl <| .e 7 2 <|
 .m 7 6 <|
 .x 8 (.bin .add (.v 7) (.c (.int .i64 1))) <|
 .m 6 8 .done
abbrev K69_3:Pl:=.m 5 14 .done
abbrev K69_4:C:=.pl <| .e 7 8 <|
 .m 7 5 <|
 .a 8 3 <|
 .g 9 8 3 2 <|
 .m 10 6 <|
 .x 11 (.ia 4 (.v 9) (.v 10)) <|
 .x 12 (.fa 3 (.v 11)) <|
 .l 13 12 <|
 .c 14 (.call fn_spec_l10Sorted [.v 7,.v 13]) K69_3
abbrev K69_5:C:=.cond 7 (.v 23) K69_4 (.skip)
abbrev K69_6:Pl:=.x 23 (.pick (.v 15) (.v 22) (.c (.bool false))) .done
abbrev K69_7:Pl:=.m 15 14 <|
 .y 15 (.als 16 none 3) <|
 .y 15 (.pget (some 17) (some 16) 3 2 none) <|
 .y 15 (.px (some 18) (.mv (.v 6))) <|
 .y 15 (.px (some 19) (.ia 4 (.v 17) (.v 18))) <|
 .y 15 (.ld (some 20) (.v 19) (some 4)) <|
 .y 15 (.px (some 21) (.mv (.v 2))) <|
 .st (.act (some (.v 15,true)) (.ex (some 22) (.call fn_spec_l7On [.v 20,.v 21]))) K69_6
abbrev K69_8:C:=.seq (.block 1 (.seq (.pl <| .e 7 17 <|
 .m 7 1 <|
 .a 8 3 <|
 .g 9 8 3 2 <|
 .m 10 6 <|
 .x 11 (.ia 4 (.v 9) (.v 10)) <|
 .x 12 (.fa 0 (.v 11)) <|
 .l 13 12 <|
 .c 14 (.call fn_spec_l4In [.v 7,.v 13]) K69_7) K69_5)) K69_2
abbrev K69_9:C:=.cond 7 (.v 11) (.skip) (.exit 0)
abbrev K69_10:C:=.seq (.seq (.pl <| .e 7 5 <|
 .m 7 6 <|
 .a 8 3 <|
 .g 9 8 3 2 <|
 .x 10 (.lenV (.v 9)) <|
 .x 11 (.bin .lss (.v 7) (.v 10)) .done) K69_9) K69_8
abbrev K69_11:C:=.block 0 (.loop 7 [0,4] K69_10)
abbrev K69_12:C:=.seq (.seq (.pl <| .e 7 0 <|
 .x 6 (.mv (.c (.int .i64 0))) .done) K69_11) K69_1
abbrev K69_13:Pl:=.m 5 7 .done
abbrev K69_14:C:=.seq (.pl <| .e 7 1 <|
 .c 7 (.bls 1 0 [.int .i64 0] []) K69_13) K69_12
abbrev B_spec_l12Step:C:=.seq (.pl <| .e 7 0 <|
 .o (.pnew 3 (.v 0) []) <|
 .x 4 (.mv (.c (.slice none 0 0))) .done) K69_14
def R_spec_l12Step:FIR:=⟨B_spec_l12Step,7,[(4,none)]⟩
theorem IR_spec_l12Step:cfun Tryz.prog H_spec_l12Step Tryz.f69=some R_spec_l12Step:=by kernel_rfl
theorem EN_spec_l12Step:ENT Tryz.prog B_spec_l12Step [(4,none)] 3 7 fn_spec_l12Step:=fun hargs hw=>enter Tryz.func69 rfl IR_spec_l12Step hargs hw
def H_spec_l4In:Hint:=⟨[(0,false),(1,false),(4,false),(5,false)],[[2]]⟩
abbrev K127_1:C:=.seq (.pl <| .e 4 0 <|
 .x 2 (.mv (.c (.bool false))) .done) (.ret)
abbrev K127_2:C:=.pl <| .e 4 2 <|
 .m 4 3 <|
 .x 5 (.bin .add (.v 4) (.c (.int .i64 1))) <|
 .m 3 5 .done
abbrev K127_3:C:=.seq (.pl <| .e 4 0 <|
 .x 2 (.mv (.c (.bool true))) .done) (.ret)
abbrev K127_4:C:=.cond 4 (.v 9) K127_3 (.skip)
abbrev K127_5:C:=.seq (.block 1 (.seq (.pl <| .e 4 6 <|
 .m 4 0 <|
 .m 5 3 <|
 .x 6 (.ia 1 (.v 4) (.v 5)) <|
 .l 7 6 <|
 .m 8 1 <|
 .x 9 (.bin .eql (.v 7) (.v 8)) .done) K127_4)) K127_2
abbrev K127_6:C:=.cond 4 (.v 7) (.skip) (.exit 0)
abbrev K127_7:C:=.seq (.seq (.pl <| .e 4 4 <|
 .m 4 3 <|
 .m 5 0 <|
 .x 6 (.lenV (.v 5)) <|
 .x 7 (.bin .lss (.v 4) (.v 6)) .done) K127_6) K127_5
abbrev K127_8:C:=.block 0 (.loop 4 [2] K127_7)
abbrev K127_9:C:=.seq (.seq (.pl <| .e 4 0 <|
 .x 3 (.mv (.c (.int .i64 0))) .done) K127_8) K127_1
abbrev B_spec_l4In:C:=.seq (.pl <| .e 4 0 <|
 .x 2 (.mv (.c (.bool false))) .done) K127_9
def R_spec_l4In:FIR:=⟨B_spec_l4In,4,[(2,none)]⟩
theorem IR_spec_l4In:cfun Tryz.prog H_spec_l4In Tryz.f127=some R_spec_l4In:=by kernel_rfl
theorem EN_spec_l4In:ENT Tryz.prog B_spec_l4In [(2,none)] 2 4 fn_spec_l4In:=fun hargs hw=>enter Tryz.func127 rfl IR_spec_l4In hargs hw
def H_spec_l7Edge:Hint:=⟨[(0,false),(1,false),(2,true),(4,false)],[]⟩
abbrev K161_1:C:=.seq (.pl <| .e 4 45 <|
 .a 4 2 <|
 .g 5 4 2 0 <|
 .x 6 (.bin .geq (.v 5) (.c (.int .i64 0))) <|
 .m 7 6 <|
 .y 7 (.als 8 none 2) <|
 .y 7 (.pget (some 9) (some 8) 2 0 none) <|
 .y 7 (.px (some 10) (.mv (.v 1))) <|
 .y 7 (.px (some 11) (.bin .lss (.v 9) (.v 10))) <|
 .x 12 (.pick (.v 7) (.v 11) (.c (.bool false))) <|
 .m 13 12 <|
 .y 13 (.als 14 none 2) <|
 .y 13 (.pget (some 15) (some 14) 2 3 none) <|
 .y 13 (.px (some 16) (.bin .geq (.v 15) (.c (.int .i64 0)))) <|
 .x 17 (.pick (.v 13) (.v 16) (.c (.bool false))) <|
 .m 18 17 <|
 .y 18 (.als 19 none 2) <|
 .y 18 (.pget (some 20) (some 19) 2 3 none) <|
 .y 18 (.px (some 21) (.mv (.v 1))) <|
 .y 18 (.px (some 22) (.bin .lss (.v 20) (.v 21))) <|
 .x 23 (.pick (.v 18) (.v 22) (.c (.bool false))) <|
 .m 24 23 <|
 .y 24 (.als 25 none 2) <|
 .y 24 (.pget (some 26) (some 25) 2 1 none) <|
 .y 24 (.px (some 27) (.bin .geq (.v 26) (.c (.int .i64 0)))) <|
 .x 28 (.pick (.v 24) (.v 27) (.c (.bool false))) <|
 .m 29 28 <|
 .y 29 (.als 30 none 2) <|
 .y 29 (.pget (some 31) (some 30) 2 1 none) <|
 .y 29 (.px (some 32) (.bin .leq (.v 31) (.c (.int .i64 7)))) <|
 .x 33 (.pick (.v 29) (.v 32) (.c (.bool false))) <|
 .m 34 33 <|
 .y 34 (.als 35 none 2) <|
 .y 34 (.pget (some 36) (some 35) 2 2 none) <|
 .y 34 (.px (some 37) (.bin .geq (.v 36) (.c (.int .i64 0)))) <|
 .x 38 (.pick (.v 34) (.v 37) (.c (.bool false))) <|
 .m 39 38 <|
 .y 39 (.als 40 none 2) <|
 .y 39 (.pget (some 41) (some 40) 2 2 none) <|
 .y 39 (.als 42 none 2) <|
 .y 39 (.pget (some 43) (some 42) 2 1 none) <|
 .y 39 (.px (some 44) (.bin .and (.v 41) (.v 43))) <|
 .y 39 (.als 45 none 2) <|
 .y 39 (.pget (some 46) (some 45) 2 2 none) <|
 .y 39 (.px (some 47) (.bin .eql (.v 44) (.v 46))) <|
 .x 48 (.pick (.v 39) (.v 47) (.c (.bool false))) <|
 .m 3 48 .done) (.ret)
abbrev B_spec_l7Edge:C:=.seq (.pl <| .e 4 0 <|
 .o (.pnew 2 (.v 0) []) <|
 .x 3 (.mv (.c (.bool false))) .done) K161_1
def R_spec_l7Edge:FIR:=⟨B_spec_l7Edge,4,[(3,none)]⟩
theorem IR_spec_l7Edge:cfun Tryz.prog H_spec_l7Edge Tryz.f161=some R_spec_l7Edge:=by kernel_rfl
theorem EN_spec_l7Edge:ENT Tryz.prog B_spec_l7Edge [(3,none)] 2 4 fn_spec_l7Edge:=fun hargs hw=>enter Tryz.func161 rfl IR_spec_l7Edge hargs hw
def H_spec_l7Loop:Hint:=⟨[(0,false),(1,false),(4,false),(5,false),(6,false),(7,false),(8,false),(9,false)],[[2,4,5,6,7],[2,3,7]]⟩
abbrev K126_1:C:=.seq (.pl <| .e 8 0 <|
 .x 2 (.mv (.c (.bool false))) .done) (.ret)
abbrev K126_2:C:=.pl <| .e 8 2 <|
 .m 8 6 <|
 .x 9 (.bin .add (.v 8) (.c (.int .i64 1))) <|
 .m 6 9 .done
abbrev K126_3:Pl:=.m 5 13 .done
abbrev K126_4:C:=.pl <| .e 8 6 <|
 .m 8 5 <|
 .m 9 0 <|
 .m 10 7 <|
 .x 11 (.ia 1 (.v 9) (.v 10)) <|
 .l 12 11 <|
 .c 13 (.app 8 1 [.int .i64 0] (.o (.v 8)) (.o (.v 12))) K126_3
abbrev K126_5:C:=.seq (.pl <| .e 8 3 <|
 .m 8 4 <|
 .m 9 7 <|
 .x 10 (.ia 1 (.v 8) (.v 9)) <|
 .o (.ex none (.store 1 (.v 10) (.c (.bool true)))) .done) K126_4
abbrev K126_6:C:=.cond 8 (.v 12) K126_5 (.skip)
abbrev K126_7:C:=.seq (.pl <| .e 8 5 <|
 .m 8 4 <|
 .m 9 7 <|
 .x 10 (.ia 1 (.v 8) (.v 9)) <|
 .l 11 10 <|
 .x 12 (.un .not (.v 11)) .done) K126_6
abbrev K126_8:C:=.seq (.pl <| .e 8 0 <|
 .x 2 (.mv (.c (.bool true))) .done) (.ret)
abbrev K126_9:C:=.cond 8 (.v 10) K126_8 (.skip)
abbrev K126_10:C:=.seq (.seq (.pl <| .e 8 3 <|
 .m 8 7 <|
 .m 9 1 <|
 .x 10 (.bin .eql (.v 8) (.v 9)) .done) K126_9) K126_7
abbrev K126_11:C:=.seq (.block 3 (.seq (.pl <| .e 8 4 <|
 .m 8 5 <|
 .m 9 6 <|
 .x 10 (.ia 1 (.v 8) (.v 9)) <|
 .l 11 10 <|
 .m 7 11 .done) K126_10)) K126_2
abbrev K126_12:C:=.cond 8 (.v 11) (.skip) (.exit 2)
abbrev K126_13:C:=.seq (.seq (.pl <| .e 8 4 <|
 .m 8 6 <|
 .m 9 5 <|
 .x 10 (.lenV (.v 9)) <|
 .x 11 (.bin .lss (.v 8) (.v 10)) .done) K126_12) K126_11
abbrev K126_14:C:=.block 2 (.loop 8 [2,3,7] K126_13)
abbrev K126_15:C:=.seq (.seq (.pl <| .e 8 0 <|
 .x 6 (.mv (.c (.int .i64 0))) .done) K126_14) K126_1
abbrev K126_16:Pl:=.m 5 13 .done
abbrev K126_17:C:=.seq (.pl <| .e 8 6 <|
 .o (.psl 8 [] []) <|
 .m 9 0 <|
 .m 10 1 <|
 .x 11 (.ia 1 (.v 9) (.v 10)) <|
 .l 12 11 <|
 .c 13 (.app 8 1 [.int .i64 0] (.p 0 8) (.o (.v 12))) K126_16) K126_15
abbrev K126_18:Pl:=.m 4 10 .done
abbrev K126_19:C:=.seq (.pl <| .e 8 3 <|
 .m 8 0 <|
 .x 9 (.lenV (.v 8)) <|
 .c 10 (.mks 1 1 [.bool false] (.v 9) (.v 9)) K126_18) K126_17
abbrev K126_20:C:=.pl <| .e 8 2 <|
 .m 8 3 <|
 .x 9 (.bin .add (.v 8) (.c (.int .i64 1))) <|
 .m 3 9 .done
abbrev K126_21:C:=.seq (.pl <| .e 8 0 <|
 .x 2 (.mv (.c (.bool true))) .done) (.ret)
abbrev K126_22:C:=.cond 8 (.v 16) K126_21 (.skip)
abbrev K126_23:C:=.seq (.block 1 (.seq (.pl <| .e 8 9 <|
 .m 8 0 <|
 .m 9 1 <|
 .x 10 (.ia 1 (.v 8) (.v 9)) <|
 .l 11 10 <|
 .m 12 3 <|
 .x 13 (.ia 1 (.v 11) (.v 12)) <|
 .l 14 13 <|
 .m 15 1 <|
 .x 16 (.bin .eql (.v 14) (.v 15)) .done) K126_22)) K126_20
abbrev K126_24:C:=.cond 8 (.v 14) (.skip) (.exit 0)
abbrev K126_25:C:=.seq (.seq (.pl <| .e 8 7 <|
 .m 8 3 <|
 .m 9 0 <|
 .m 10 1 <|
 .x 11 (.ia 1 (.v 9) (.v 10)) <|
 .l 12 11 <|
 .x 13 (.lenV (.v 12)) <|
 .x 14 (.bin .lss (.v 8) (.v 13)) .done) K126_24) K126_23
abbrev K126_26:C:=.block 0 (.loop 8 [2,4,5,6,7] K126_25)
abbrev K126_27:C:=.seq (.seq (.pl <| .e 8 0 <|
 .x 3 (.mv (.c (.int .i64 0))) .done) K126_26) K126_19
abbrev B_spec_l7Loop:C:=.seq (.pl <| .e 8 0 <|
 .x 2 (.mv (.c (.bool false))) .done) K126_27
def R_spec_l7Loop:FIR:=⟨B_spec_l7Loop,8,[(2,none)]⟩
theorem IR_spec_l7Loop:cfun Tryz.prog H_spec_l7Loop Tryz.f126=some R_spec_l7Loop:=by kernel_rfl
theorem EN_spec_l7Loop:ENT Tryz.prog B_spec_l7Loop [(2,none)] 2 8 fn_spec_l7Loop:=fun hargs hw=>enter Tryz.func126 rfl IR_spec_l7Loop hargs hw
def H_spec_l7Next:Hint:=⟨[(0,false),(1,true),(2,false),(3,false),(4,false),(5,true)],[[0,2,5]]⟩
abbrev K124_1:C:=.seq (.pl <| .e 6 1 <|
 .m 6 3 <|
 .m 2 6 .done) (.ret)
abbrev K124_2:C:=.pl <| .e 6 2 <|
 .m 6 4 <|
 .x 7 (.bin .add (.v 6) (.c (.int .i64 1))) <|
 .m 4 7 .done
abbrev K124_3:Pl:=.x 18 (.ia 1 (.v 6) (.v 8)) <|
 .o (.ex none (.store 1 (.v 18) (.v 17))) .done
abbrev K124_4:C:=.pl <| .e 6 13 <|
 .m 6 3 <|
 .a 7 5 <|
 .g 8 7 5 0 <|
 .m 9 3 <|
 .a 10 5 <|
 .g 11 10 5 0 <|
 .x 12 (.ia 1 (.v 9) (.v 11)) <|
 .l 13 12 <|
 .a 14 5 <|
 .g 15 14 5 3 <|
 .o (.psl 16 [.int .i64 0] [(0,1,.v 15)]) <|
 .c 17 (.app 8 1 [.int .i64 0] (.o (.v 13)) (.p 1 16)) K124_3
abbrev K124_5:C:=.cond 6 (.v 14) K124_4 (.skip)
abbrev K124_6:Pl:=.x 14 (.un .not (.v 13)) .done
abbrev K124_7:C:=.seq (.pl <| .e 6 9 <|
 .m 6 3 <|
 .a 7 5 <|
 .g 8 7 5 0 <|
 .x 9 (.ia 1 (.v 6) (.v 8)) <|
 .l 10 9 <|
 .a 11 5 <|
 .g 12 11 5 3 <|
 .c 13 (.call fn_spec_l4In [.v 10,.v 12]) K124_6) K124_5
abbrev K124_8:C:=.seq (.block 1 (.seq (.pl <| .e 6 5 <|
 .a 6 1 <|
 .g 7 6 1 2 <|
 .m 8 4 <|
 .x 9 (.ia 4 (.v 7) (.v 8)) <|
 .o (.ld (some 10) (.v 9) (some 4)) <|
 .o (.pnew 5 (.c (.agg #[.int .i64 0,.int .i64 0,.int .i64 0,.int .i64 0])) []) <|
 .o (.pset none 5 0 4 (.v 10)) .done) K124_7)) K124_2
abbrev K124_9:C:=.cond 6 (.v 10) (.skip) (.exit 0)
abbrev K124_10:C:=.seq (.seq (.pl <| .e 6 5 <|
 .m 6 4 <|
 .a 7 1 <|
 .g 8 7 1 2 <|
 .x 9 (.lenV (.v 8)) <|
 .x 10 (.bin .lss (.v 6) (.v 9)) .done) K124_9) K124_8
abbrev K124_11:C:=.block 0 (.loop 6 [0,2,5] K124_10)
abbrev K124_12:C:=.seq (.seq (.pl <| .e 6 0 <|
 .x 4 (.mv (.c (.int .i64 0))) .done) K124_11) K124_1
abbrev K124_13:Pl:=.m 3 9 .done
abbrev K124_14:C:=.seq (.pl <| .e 6 4 <|
 .a 6 1 <|
 .g 7 6 1 1 <|
 .x 8 (.lenV (.v 7)) <|
 .c 9 (.mks 24 1 [.slice none 0 0] (.v 8) (.v 8)) K124_13) K124_12
abbrev B_spec_l7Next:C:=.seq (.pl <| .e 6 0 <|
 .o (.pnew 1 (.v 0) []) <|
 .x 2 (.mv (.c (.slice none 0 0))) .done) K124_14
def R_spec_l7Next:FIR:=⟨B_spec_l7Next,6,[(2,none)]⟩
theorem IR_spec_l7Next:cfun Tryz.prog H_spec_l7Next Tryz.f124=some R_spec_l7Next:=by kernel_rfl
theorem EN_spec_l7Next:ENT Tryz.prog B_spec_l7Next [(2,none)] 1 6 fn_spec_l7Next:=fun hargs hw=>enter Tryz.func124 rfl IR_spec_l7Next hargs hw
def H_spec_l7On:Hint:=⟨[(0,false),(1,false),(2,true),(4,false)],[]⟩
abbrev K128_1:C:=.seq (.pl <| .e 4 7 <|
 .m 4 1 <|
 .a 5 2 <|
 .g 6 5 2 1 <|
 .x 7 (.bin .and (.v 4) (.v 6)) <|
 .a 8 2 <|
 .g 9 8 2 2 <|
 .x 10 (.bin .eql (.v 7) (.v 9)) <|
 .m 3 10 .done) (.ret)
abbrev B_spec_l7On:C:=.seq (.pl <| .e 4 0 <|
 .o (.pnew 2 (.v 0) []) <|
 .x 3 (.mv (.c (.bool false))) .done) K128_1
def R_spec_l7On:FIR:=⟨B_spec_l7On,4,[(3,none)]⟩
theorem IR_spec_l7On:cfun Tryz.prog H_spec_l7On Tryz.f128=some R_spec_l7On:=by kernel_rfl
theorem EN_spec_l7On:ENT Tryz.prog B_spec_l7On [(3,none)] 2 4 fn_spec_l7On:=fun hargs hw=>enter Tryz.func128 rfl IR_spec_l7On hargs hw
def H_spec_l6Word:Hint:=⟨[(0,false),(1,false),(4,false),(5,false),(6,false)],[[2]]⟩
abbrev K86_1:C:=.seq (.pl <| .e 5 1 <|
 .m 5 3 <|
 .m 2 5 .done) (.ret)
abbrev K86_2:C:=.pl <| .e 5 2 <|
 .m 5 4 <|
 .x 6 (.bin .add (.v 5) (.c (.int .i64 1))) <|
 .m 4 6 .done
abbrev K86_3:Pl:=.m 3 10 .done
abbrev K86_4:Pl:=.o (.psl 9 [.int .i64 0] [(0,1,.v 8)]) <|
 .c 10 (.app 8 1 [.int .i64 0] (.o (.v 5)) (.p 1 9)) K86_3
abbrev K86_5:Pl:=.c 8 (.call fn_spec_l16Rd_num [.v 6,.v 7]) K86_4
abbrev K86_6:C:=.seq (.block 1 (.pl <| .e 5 6 <|
 .m 5 3 <|
 .m 6 0 <|
 .c 7 (.bls 1 9 [.int .i64 0] [(0,1,.c (.int .i64 0)),(1,1,.c (.int .i64 1)),(2,1,.c (.int .i64 2)),(3,1,.c (.int .i64 3)),(4,1,.c (.int .i64 1)),(5,1,.c (.int .i64 0)),(6,1,.c (.int .i64 5)),(7,1,.c (.int .i64 4)),(8,1,.c (.int .i64 7))]) K86_5)) K86_2
abbrev K86_7:C:=.cond 5 (.v 7) (.skip) (.exit 0)
abbrev K86_8:C:=.seq (.seq (.pl <| .e 5 3 <|
 .m 5 4 <|
 .m 6 1 <|
 .x 7 (.bin .lss (.v 5) (.v 6)) .done) K86_7) K86_6
abbrev K86_9:C:=.block 0 (.loop 5 [2] K86_8)
abbrev K86_10:C:=.seq (.seq (.pl <| .e 5 0 <|
 .x 4 (.mv (.c (.int .i64 0))) .done) K86_9) K86_1
abbrev K86_11:Pl:=.m 3 5 .done
abbrev K86_12:C:=.seq (.pl <| .e 5 1 <|
 .c 5 (.bls 1 0 [.int .i64 0] []) K86_11) K86_10
abbrev B_spec_l6Word:C:=.seq (.pl <| .e 5 0 <|
 .x 2 (.mv (.c (.slice none 0 0))) .done) K86_12
def R_spec_l6Word:FIR:=⟨B_spec_l6Word,5,[(2,none)]⟩
theorem IR_spec_l6Word:cfun Tryz.prog H_spec_l6Word Tryz.f86=some R_spec_l6Word:=by kernel_rfl
theorem EN_spec_l6Word:ENT Tryz.prog B_spec_l6Word [(2,none)] 2 5 fn_spec_l6Word:=fun hargs hw=>enter Tryz.func86 rfl IR_spec_l6Word hargs hw
def H_slices_EqualFunc_S_impl_Formula_S_impl_Formula_impl_Formula_impl_Formula:Hint:=⟨[(0,false),(1,false),(2,false),(6,false),(7,false),(8,true),(9,true),(15,false),(16,false),(17,false)],[[0,3,4,5,6]]⟩
abbrev K168_1:C:=.seq (.pl <| .e 10 0 <|
 .x 3 (.mv (.c (.bool true))) .done) (.ret)
abbrev K168_2:C:=.pl <| .e 10 1 <|
 .x 10 (.bin .add (.v 9) (.c (.int .i64 1))) <|
 .m 9 10 .done
abbrev K168_3:C:=.seq (.pl <| .e 10 0 <|
 .x 3 (.mv (.c (.bool false))) .done) (.ret)
abbrev K168_4:C:=.cond 10 (.v 14) K168_3 (.skip)
abbrev K168_5:Pl:=.x 14 (.un .not (.v 13)) .done
abbrev K168_6:C:=.seq (.pl <| .e 10 5 <|
 .m 10 2 <|
 .o (.pget (some 11) none 5 0 (some 3)) <|
 .o (.pget (some 12) none 6 0 (some 3)) <|
 .c 13 (.callv (.v 10) [.v 11,.v 12]) K168_5) K168_4
abbrev K168_7:C:=.seq (.pl <| .e 10 4 <|
 .m 10 1 <|
 .m 11 4 <|
 .x 12 (.ia 3 (.v 10) (.v 11)) <|
 .o (.ld (some 13) (.v 12) (some 3)) <|
 .o (.pnew 6 (.c (.agg #[.int .i64 0,.int .i64 0,.slice none 0 0])) []) <|
 .o (.pset none 6 0 3 (.v 13)) .done) K168_6
abbrev K168_8:C:=.seq (.block 1 (.seq (.pl <| .e 10 3 <|
 .m 10 9 <|
 .x 11 (.ia 3 (.v 7) (.v 9)) <|
 .o (.ld (some 12) (.v 11) (some 3)) <|
 .o (.pnew 5 (.c (.agg #[.int .i64 0,.int .i64 0,.slice none 0 0])) []) <|
 .m 4 10 <|
 .o (.pset none 5 0 3 (.v 12)) .done) K168_7)) K168_2
abbrev K168_9:C:=.seq (.cond 10 (.v 10) (.skip) (.exit 0)) K168_8
abbrev K168_10:C:=.seq (.pl <| .e 10 1 <|
 .x 10 (.bin .lss (.v 9) (.v 8)) .done) K168_9
abbrev K168_11:C:=.block 0 (.loop 10 [0,3,4,5,6] K168_10)
abbrev K168_12:C:=.seq (.seq (.pl <| .e 10 0 <|
 .m 7 0 <|
 .x 8 (.lenV (.v 7)) <|
 .x 9 (.mv (.c (.int .i64 0))) .done) K168_11) K168_1
abbrev K168_13:C:=.seq (.pl <| .e 10 0 <|
 .x 3 (.mv (.c (.bool false))) .done) (.ret)
abbrev K168_14:C:=.cond 10 (.v 14) K168_13 (.skip)
abbrev K168_15:C:=.seq (.seq (.pl <| .e 10 5 <|
 .m 10 0 <|
 .x 11 (.lenV (.v 10)) <|
 .m 12 1 <|
 .x 13 (.lenV (.v 12)) <|
 .x 14 (.bin .neq (.v 11) (.v 13)) .done) K168_14) K168_12
abbrev B_slices_EqualFunc_S_impl_Formula_S_impl_Formula_impl_Formula_impl_Formula:C:=.seq (.pl <| .e 10 0 <|
 .x 3 (.mv (.c (.bool false))) .done) K168_15
def R_slices_EqualFunc_S_impl_Formula_S_impl_Formula_impl_Formula_impl_Formula:FIR:=⟨B_slices_EqualFunc_S_impl_Formula_S_impl_Formula_impl_Formula_impl_Formula,10,[(3,none)]⟩
theorem IR_slices_EqualFunc_S_impl_Formula_S_impl_Formula_impl_Formula_impl_Formula:cfun Tryz.prog H_slices_EqualFunc_S_impl_Formula_S_impl_Formula_impl_Formula_impl_Formula Tryz.f168=some R_slices_EqualFunc_S_impl_Formula_S_impl_Formula_impl_Formula_impl_Formula:=by kernel_rfl
theorem EN_slices_EqualFunc_S_impl_Formula_S_impl_Formula_impl_Formula_impl_Formula:ENT Tryz.prog B_slices_EqualFunc_S_impl_Formula_S_impl_Formula_impl_Formula_impl_Formula [(3,none)] 3 10 fn_slices_EqualFunc_S_impl_Formula_S_impl_Formula_impl_Formula_impl_Formula:=fun hargs hw=>enter Tryz.func168 rfl IR_slices_EqualFunc_S_impl_Formula_S_impl_Formula_impl_Formula_impl_Formula hargs hw
def H_slices_Equal_S_bool_bool:Hint:=⟨[(0,false),(1,false),(4,false),(5,false),(12,false),(13,false)],[[2,3]]⟩
abbrev K53_1:C:=.seq (.pl <| .e 6 0 <|
 .x 2 (.mv (.c (.bool true))) .done) (.ret)
abbrev K53_2:C:=.pl <| .e 6 1 <|
 .x 6 (.bin .add (.v 5) (.c (.int .i64 1))) <|
 .m 5 6 .done
abbrev K53_3:C:=.seq (.pl <| .e 6 0 <|
 .x 2 (.mv (.c (.bool false))) .done) (.ret)
abbrev K53_4:C:=.cond 6 (.v 14) K53_3 (.skip)
abbrev K53_5:C:=.seq (.pl <| .e 6 9 <|
 .m 6 0 <|
 .m 7 3 <|
 .x 8 (.ia 1 (.v 6) (.v 7)) <|
 .l 9 8 <|
 .m 10 1 <|
 .m 11 3 <|
 .x 12 (.ia 1 (.v 10) (.v 11)) <|
 .l 13 12 <|
 .x 14 (.eqb true (.v 9) (.v 13)) .done) K53_4
abbrev K53_6:C:=.seq (.block 1 (.seq (.pl <| .e 6 1 <|
 .m 6 5 <|
 .m 3 6 .done) K53_5)) K53_2
abbrev K53_7:C:=.seq (.cond 6 (.v 6) (.skip) (.exit 0)) K53_6
abbrev K53_8:C:=.seq (.pl <| .e 6 1 <|
 .x 6 (.bin .lss (.v 5) (.v 4)) .done) K53_7
abbrev K53_9:C:=.block 0 (.loop 6 [2,3] K53_8)
abbrev K53_10:C:=.seq (.seq (.pl <| .e 6 1 <|
 .m 6 0 <|
 .x 4 (.lenV (.v 6)) <|
 .x 5 (.mv (.c (.int .i64 0))) .done) K53_9) K53_1
abbrev K53_11:C:=.seq (.pl <| .e 6 0 <|
 .x 2 (.mv (.c (.bool false))) .done) (.ret)
abbrev K53_12:C:=.cond 6 (.v 10) K53_11 (.skip)
abbrev K53_13:C:=.seq (.seq (.pl <| .e 6 5 <|
 .m 6 0 <|
 .x 7 (.lenV (.v 6)) <|
 .m 8 1 <|
 .x 9 (.lenV (.v 8)) <|
 .x 10 (.bin .neq (.v 7) (.v 9)) .done) K53_12) K53_10
abbrev B_slices_Equal_S_bool_bool:C:=.seq (.pl <| .e 6 0 <|
 .x 2 (.mv (.c (.bool false))) .done) K53_13
def R_slices_Equal_S_bool_bool:FIR:=⟨B_slices_Equal_S_bool_bool,6,[(2,none)]⟩
theorem IR_slices_Equal_S_bool_bool:cfun Tryz.prog H_slices_Equal_S_bool_bool Tryz.f53=some R_slices_Equal_S_bool_bool:=by kernel_rfl
theorem EN_slices_Equal_S_bool_bool:ENT Tryz.prog B_slices_Equal_S_bool_bool [(2,none)] 2 6 fn_slices_Equal_S_bool_bool:=fun hargs hw=>enter Tryz.func53 rfl IR_slices_Equal_S_bool_bool hargs hw
def H_slices_IndexFunc_S_impl_Formula_impl_Formula:Hint:=⟨[(0,false),(1,false),(4,false),(5,false),(7,false),(8,false)],[[2,3]]⟩
abbrev K143_1:C:=.seq (.pl <| .e 6 0 <|
 .x 2 (.mv (.c (.int .i64 (-1)))) .done) (.ret)
abbrev K143_2:C:=.pl <| .e 6 1 <|
 .x 6 (.bin .add (.v 5) (.c (.int .i64 1))) <|
 .m 5 6 .done
abbrev K143_3:C:=.seq (.pl <| .e 6 1 <|
 .m 6 3 <|
 .m 2 6 .done) (.ret)
abbrev K143_4:C:=.cond 6 (.v 11) K143_3 (.skip)
abbrev K143_5:C:=.seq (.pl <| .e 6 6 <|
 .m 6 1 <|
 .m 7 0 <|
 .m 8 3 <|
 .x 9 (.ia 3 (.v 7) (.v 8)) <|
 .o (.ld (some 10) (.v 9) (some 3)) <|
 .c 11 (.callv (.v 6) [.v 10]) .done) K143_4
abbrev K143_6:C:=.seq (.block 1 (.seq (.pl <| .e 6 1 <|
 .m 6 5 <|
 .m 3 6 .done) K143_5)) K143_2
abbrev K143_7:C:=.seq (.cond 6 (.v 6) (.skip) (.exit 0)) K143_6
abbrev K143_8:C:=.seq (.pl <| .e 6 1 <|
 .x 6 (.bin .lss (.v 5) (.v 4)) .done) K143_7
abbrev K143_9:C:=.block 0 (.loop 6 [2,3] K143_8)
abbrev K143_10:C:=.seq (.seq (.pl <| .e 6 1 <|
 .m 6 0 <|
 .x 4 (.lenV (.v 6)) <|
 .x 5 (.mv (.c (.int .i64 0))) .done) K143_9) K143_1
abbrev B_slices_IndexFunc_S_impl_Formula_impl_Formula:C:=.seq (.pl <| .e 6 0 <|
 .x 2 (.mv (.c (.int .i64 0))) .done) K143_10
def R_slices_IndexFunc_S_impl_Formula_impl_Formula:FIR:=⟨B_slices_IndexFunc_S_impl_Formula_impl_Formula,6,[(2,none)]⟩
theorem IR_slices_IndexFunc_S_impl_Formula_impl_Formula:cfun Tryz.prog H_slices_IndexFunc_S_impl_Formula_impl_Formula Tryz.f143=some R_slices_IndexFunc_S_impl_Formula_impl_Formula:=by kernel_rfl
theorem EN_slices_IndexFunc_S_impl_Formula_impl_Formula:ENT Tryz.prog B_slices_IndexFunc_S_impl_Formula_impl_Formula [(2,none)] 2 6 fn_slices_IndexFunc_S_impl_Formula_impl_Formula:=fun hargs hw=>enter Tryz.func143 rfl IR_slices_IndexFunc_S_impl_Formula_impl_Formula hargs hw
def H_slices_IndexFunc_S_impl_Transition_impl_Transition:Hint:=⟨[(0,false),(1,false),(4,false),(5,false),(7,false),(8,false)],[[2,3]]⟩
abbrev K119_1:C:=.seq (.pl <| .e 6 0 <|
 .x 2 (.mv (.c (.int .i64 (-1)))) .done) (.ret)
abbrev K119_2:C:=.pl <| .e 6 1 <|
 .x 6 (.bin .add (.v 5) (.c (.int .i64 1))) <|
 .m 5 6 .done
abbrev K119_3:C:=.seq (.pl <| .e 6 1 <|
 .m 6 3 <|
 .m 2 6 .done) (.ret)
abbrev K119_4:C:=.cond 6 (.v 11) K119_3 (.skip)
abbrev K119_5:C:=.seq (.pl <| .e 6 6 <|
 .m 6 1 <|
 .m 7 0 <|
 .m 8 3 <|
 .x 9 (.ia 4 (.v 7) (.v 8)) <|
 .o (.ld (some 10) (.v 9) (some 4)) <|
 .c 11 (.callv (.v 6) [.v 10]) .done) K119_4
abbrev K119_6:C:=.seq (.block 1 (.seq (.pl <| .e 6 1 <|
 .m 6 5 <|
 .m 3 6 .done) K119_5)) K119_2
abbrev K119_7:C:=.seq (.cond 6 (.v 6) (.skip) (.exit 0)) K119_6
abbrev K119_8:C:=.seq (.pl <| .e 6 1 <|
 .x 6 (.bin .lss (.v 5) (.v 4)) .done) K119_7
abbrev K119_9:C:=.block 0 (.loop 6 [2,3] K119_8)
abbrev K119_10:C:=.seq (.seq (.pl <| .e 6 1 <|
 .m 6 0 <|
 .x 4 (.lenV (.v 6)) <|
 .x 5 (.mv (.c (.int .i64 0))) .done) K119_9) K119_1
abbrev B_slices_IndexFunc_S_impl_Transition_impl_Transition:C:=.seq (.pl <| .e 6 0 <|
 .x 2 (.mv (.c (.int .i64 0))) .done) K119_10
def R_slices_IndexFunc_S_impl_Transition_impl_Transition:FIR:=⟨B_slices_IndexFunc_S_impl_Transition_impl_Transition,6,[(2,none)]⟩
theorem IR_slices_IndexFunc_S_impl_Transition_impl_Transition:cfun Tryz.prog H_slices_IndexFunc_S_impl_Transition_impl_Transition Tryz.f119=some R_slices_IndexFunc_S_impl_Transition_impl_Transition:=by kernel_rfl
theorem EN_slices_IndexFunc_S_impl_Transition_impl_Transition:ENT Tryz.prog B_slices_IndexFunc_S_impl_Transition_impl_Transition [(2,none)] 2 6 fn_slices_IndexFunc_S_impl_Transition_impl_Transition:=fun hargs hw=>enter Tryz.func119 rfl IR_slices_IndexFunc_S_impl_Transition_impl_Transition hargs hw
def H_slices_Index_S_int_int:Hint:=⟨[(0,false),(1,false),(4,false),(5,false),(7,false),(8,false)],[[2,3]]⟩
abbrev K176_1:C:=.seq (.pl <| .e 6 0 <|
 .x 2 (.mv (.c (.int .i64 (-1)))) .done) (.ret)
abbrev K176_2:C:=.pl <| .e 6 1 <|
 .x 6 (.bin .add (.v 5) (.c (.int .i64 1))) <|
 .m 5 6 .done
abbrev K176_3:C:=.seq (.pl <| .e 6 1 <|
 .m 6 3 <|
 .m 2 6 .done) (.ret)
abbrev K176_4:C:=.cond 6 (.v 11) K176_3 (.skip)
abbrev K176_5:C:=.seq (.pl <| .e 6 6 <|
 .m 6 1 <|
 .m 7 0 <|
 .m 8 3 <|
 .x 9 (.ia 1 (.v 7) (.v 8)) <|
 .l 10 9 <|
 .x 11 (.bin .eql (.v 6) (.v 10)) .done) K176_4
abbrev K176_6:C:=.seq (.block 1 (.seq (.pl <| .e 6 1 <|
 .m 6 5 <|
 .m 3 6 .done) K176_5)) K176_2
abbrev K176_7:C:=.seq (.cond 6 (.v 6) (.skip) (.exit 0)) K176_6
abbrev K176_8:C:=.seq (.pl <| .e 6 1 <|
 .x 6 (.bin .lss (.v 5) (.v 4)) .done) K176_7
abbrev K176_9:C:=.block 0 (.loop 6 [2,3] K176_8)
abbrev K176_10:C:=.seq (.seq (.pl <| .e 6 1 <|
 .m 6 0 <|
 .x 4 (.lenV (.v 6)) <|
 .x 5 (.mv (.c (.int .i64 0))) .done) K176_9) K176_1
abbrev B_slices_Index_S_int_int:C:=.seq (.pl <| .e 6 0 <|
 .x 2 (.mv (.c (.int .i64 0))) .done) K176_10
def R_slices_Index_S_int_int:FIR:=⟨B_slices_Index_S_int_int,6,[(2,none)]⟩
theorem IR_slices_Index_S_int_int:cfun Tryz.prog H_slices_Index_S_int_int Tryz.f176=some R_slices_Index_S_int_int:=by kernel_rfl
theorem EN_slices_Index_S_int_int:ENT Tryz.prog B_slices_Index_S_int_int [(2,none)] 2 6 fn_slices_Index_S_int_int:=fun hargs hw=>enter Tryz.func176 rfl IR_slices_Index_S_int_int hargs hw
def H_spec_BasicFormulas:Hint:=⟨[(0,false),(1,true),(2,false),(3,false),(4,true),(5,false),(6,false),(7,false),(8,false)],[[0,1,2,3,4,5]]⟩
abbrev K44_1:C:=.seq (.pl <| .e 9 1 <|
 .m 9 6 <|
 .m 2 9 <|
 .x 3 (.mv (.c (.bool true))) .done) (.ret)
abbrev K44_2:Pl:=.m 2 9 <|
 .x 3 (.mv (.c (.bool false))) .done
abbrev K44_3:C:=.seq (.pl <| .e 9 1 <|
 .c 9 (.bls 3 0 [.int .i64 0,.int .i64 0,.slice none 0 0] []) K44_2) (.ret)
abbrev K44_4:C:=.cond 9 (.v 11) K44_3 (.skip)
abbrev K44_5:C:=.seq (.seq (.pl <| .e 9 3 <|
 .m 9 6 <|
 .x 10 (.lenV (.v 9)) <|
 .x 11 (.bin .gtr (.v 10) (.c (.int .i64 5))) .done) K44_4) K44_1
abbrev K44_6:C:=.pl <| .e 9 2 <|
 .m 9 8 <|
 .x 10 (.bin .add (.v 9) (.c (.int .i64 1))) <|
 .m 8 10 .done
abbrev K44_7:Pl:=.m 6 15 .done
abbrev K44_8:C:=.pl <| .e 9 7 <|
 .m 9 6 <|
 .m 10 7 <|
 .m 11 8 <|
 .x 12 (.ia 3 (.v 10) (.v 11)) <|
 .o (.ld (some 13) (.v 12) (some 3)) <|
 .o (.psl 14 [.int .i64 0,.int .i64 0,.slice none 0 0] [(0,3,.v 13)]) <|
 .c 15 (.app 40 3 [.int .i64 0,.int .i64 0,.slice none 0 0] (.o (.v 9)) (.p 1 14)) K44_7
abbrev K44_9:C:=.cond 9 (.v 13) K44_8 (.skip)
abbrev K44_10:C:=.seq (.block 1 (.seq (.pl <| .e 9 5 <|
 .m 9 7 <|
 .m 10 8 <|
 .x 11 (.ia 3 (.v 9) (.v 10)) <|
 .o (.ld (some 12) (.v 11) (some 3)) <|
 .c 13 (.call fn_spec_l7Basic [.v 12]) .done) K44_9)) K44_6
abbrev K44_11:C:=.cond 9 (.v 12) (.skip) (.exit 0)
abbrev K44_12:C:=.seq (.seq (.pl <| .e 9 4 <|
 .m 9 8 <|
 .m 10 7 <|
 .x 11 (.lenV (.v 10)) <|
 .x 12 (.bin .lss (.v 9) (.v 11)) .done) K44_11) K44_10
abbrev K44_13:C:=.block 0 (.loop 9 [0,1,2,3,4,5] K44_12)
abbrev K44_14:C:=.seq (.seq (.pl <| .e 9 0 <|
 .x 8 (.mv (.c (.int .i64 0))) .done) K44_13) K44_5
abbrev K44_15:Pl:=.m 7 10 .done
abbrev K44_16:C:=.seq (.pl <| .e 9 2 <|
 .o (.pget (some 9) none 4 0 (some 3)) <|
 .c 10 (.call fn_spec_l5Subs [.c (.slice none 0 0),.v 9]) K44_15) K44_14
abbrev K44_17:Pl:=.m 6 9 .done
abbrev K44_18:C:=.seq (.pl <| .e 9 1 <|
 .c 9 (.bls 3 0 [.int .i64 0,.int .i64 0,.slice none 0 0] []) K44_17) K44_16
abbrev K44_19:Pl:=.m 2 9 <|
 .x 3 (.mv (.c (.bool false))) .done
abbrev K44_20:C:=.seq (.pl <| .e 9 1 <|
 .c 9 (.bls 3 0 [.int .i64 0,.int .i64 0,.slice none 0 0] []) K44_19) (.ret)
abbrev K44_21:C:=.cond 9 (.v 10) K44_20 (.skip)
abbrev K44_22:C:=.seq (.seq (.pl <| .e 9 2 <|
 .m 9 5 <|
 .x 10 (.un .not (.v 9)) .done) K44_21) K44_18
abbrev K44_23:Pl:=.m 11 10 <|
 .x 12 (.extract 0 (.v 11)) <|
 .x 13 (.extract 1 (.v 11)) <|
 .o (.pnew 4 (.c (.agg #[.int .i64 0,.int .i64 0,.slice none 0 0])) []) <|
 .o (.pset none 4 0 3 (.v 12)) <|
 .m 5 13 .done
abbrev K44_24:C:=.seq (.pl <| .e 9 5 <|
 .o (.pget (some 9) none 1 0 (some 3)) <|
 .c 10 (.call fn_spec_NormalForm [.v 9]) K44_23) K44_22
abbrev B_spec_BasicFormulas:C:=.seq (.pl <| .e 9 0 <|
 .o (.pnew 1 (.v 0) []) <|
 .x 2 (.mv (.c (.slice none 0 0))) <|
 .x 3 (.mv (.c (.bool false))) .done) K44_24
def R_spec_BasicFormulas:FIR:=⟨B_spec_BasicFormulas,9,[(2,none),(3,none)]⟩
theorem IR_spec_BasicFormulas:cfun Tryz.prog H_spec_BasicFormulas Tryz.f44=some R_spec_BasicFormulas:=by kernel_rfl
theorem EN_spec_BasicFormulas:ENT Tryz.prog B_spec_BasicFormulas [(2,none),(3,none)] 1 9 fn_spec_BasicFormulas:=fun hargs hw=>enter Tryz.func44 rfl IR_spec_BasicFormulas hargs hw
def H_spec_FormulaSame:Hint:=⟨[(0,false),(1,false),(2,true),(3,true),(4,false),(5,false)],[[0,1,4]]⟩
abbrev K152_1:C:=.seq (.pl <| .e 6 0 <|
 .x 4 (.mv (.c (.bool true))) .done) (.ret)
abbrev K152_2:C:=.pl <| .e 6 2 <|
 .m 6 5 <|
 .x 7 (.bin .add (.v 6) (.c (.int .i64 1))) <|
 .m 5 7 .done
abbrev K152_3:C:=.seq (.pl <| .e 6 0 <|
 .x 4 (.mv (.c (.bool false))) .done) (.ret)
abbrev K152_4:C:=.cond 6 (.v 17) K152_3 (.skip)
abbrev K152_5:Pl:=.x 17 (.un .not (.v 16)) .done
abbrev K152_6:C:=.seq (.block 1 (.seq (.pl <| .e 6 12 <|
 .a 6 2 <|
 .g 7 6 2 2 <|
 .m 8 5 <|
 .x 9 (.ia 3 (.v 7) (.v 8)) <|
 .o (.ld (some 10) (.v 9) (some 3)) <|
 .a 11 3 <|
 .g 12 11 3 2 <|
 .m 13 5 <|
 .x 14 (.ia 3 (.v 12) (.v 13)) <|
 .o (.ld (some 15) (.v 14) (some 3)) <|
 .c 16 (.call fn_spec_FormulaSame [.v 10,.v 15]) K152_5) K152_4)) K152_2
abbrev K152_7:C:=.cond 6 (.v 10) (.skip) (.exit 0)
abbrev K152_8:C:=.seq (.seq (.pl <| .e 6 5 <|
 .m 6 5 <|
 .a 7 2 <|
 .g 8 7 2 2 <|
 .x 9 (.lenV (.v 8)) <|
 .x 10 (.bin .lss (.v 6) (.v 9)) .done) K152_7) K152_6
abbrev K152_9:C:=.block 0 (.loop 6 [0,1,4] K152_8)
abbrev K152_10:C:=.seq (.seq (.pl <| .e 6 0 <|
 .x 5 (.mv (.c (.int .i64 0))) .done) K152_9) K152_1
abbrev K152_11:C:=.seq (.pl <| .e 6 0 <|
 .x 4 (.mv (.c (.bool false))) .done) (.ret)
abbrev K152_12:C:=.cond 6 (.v 26) K152_11 (.skip)
abbrev K152_13:C:=.seq (.seq (.pl <| .e 6 21 <|
 .a 6 2 <|
 .g 7 6 2 0 <|
 .a 8 3 <|
 .g 9 8 3 0 <|
 .x 10 (.bin .neq (.v 7) (.v 9)) <|
 .m 11 10 <|
 .n 11 (.als 12 none 2) <|
 .n 11 (.pget (some 13) (some 12) 2 1 none) <|
 .n 11 (.als 14 none 3) <|
 .n 11 (.pget (some 15) (some 14) 3 1 none) <|
 .n 11 (.px (some 16) (.bin .neq (.v 13) (.v 15))) <|
 .x 17 (.pick (.v 11) (.c (.bool true)) (.v 16)) <|
 .m 18 17 <|
 .n 18 (.als 19 none 2) <|
 .n 18 (.pget (some 20) (some 19) 2 2 none) <|
 .n 18 (.px (some 21) (.lenV (.v 20))) <|
 .n 18 (.als 22 none 3) <|
 .n 18 (.pget (some 23) (some 22) 3 2 none) <|
 .n 18 (.px (some 24) (.lenV (.v 23))) <|
 .n 18 (.px (some 25) (.bin .neq (.v 21) (.v 24))) <|
 .x 26 (.pick (.v 18) (.c (.bool true)) (.v 25)) .done) K152_12) K152_10
abbrev B_spec_FormulaSame:C:=.seq (.pl <| .e 6 0 <|
 .o (.pnew 2 (.v 0) []) <|
 .o (.pnew 3 (.v 1) []) <|
 .x 4 (.mv (.c (.bool false))) .done) K152_13
def R_spec_FormulaSame:FIR:=⟨B_spec_FormulaSame,6,[(4,none)]⟩
theorem IR_spec_FormulaSame:cfun Tryz.prog H_spec_FormulaSame Tryz.f152=some R_spec_FormulaSame:=by kernel_rfl
theorem EN_spec_FormulaSame:ENT Tryz.prog B_spec_FormulaSame [(4,none)] 2 6 fn_spec_FormulaSame:=fun hargs hw=>enter Tryz.func152 rfl IR_spec_FormulaSame hargs hw
def H_spec_FormulaValid:Hint:=⟨[(0,false),(1,true),(2,false)],[]⟩
abbrev K99_1:Pl:=.y 5 (.px (some 8) (.bin .leq (.v 7) (.c (.int .i64 12)))) <|
 .x 9 (.pick (.v 5) (.v 8) (.c (.bool false))) <|
 .m 2 9 .done
abbrev K99_2:Pl:=.m 5 4 <|
 .y 5 (.pget (some 6) none 1 0 (some 3)) <|
 .st (.act (some (.v 5,true)) (.ex (some 7) (.call fn_spec_l5Count [.v 6,.c (.int .i64 6)]))) K99_1
abbrev K99_3:C:=.seq (.pl <| .e 3 7 <|
 .o (.pget (some 3) none 1 0 (some 3)) <|
 .c 4 (.call fn_spec_l5Shape [.v 3,.c (.int .i64 6)]) K99_2) (.ret)
abbrev B_spec_FormulaValid:C:=.seq (.pl <| .e 3 0 <|
 .o (.pnew 1 (.v 0) []) <|
 .x 2 (.mv (.c (.bool false))) .done) K99_3
def R_spec_FormulaValid:FIR:=⟨B_spec_FormulaValid,3,[(2,none)]⟩
theorem IR_spec_FormulaValid:cfun Tryz.prog H_spec_FormulaValid Tryz.f99=some R_spec_FormulaValid:=by kernel_rfl
theorem EN_spec_FormulaValid:ENT Tryz.prog B_spec_FormulaValid [(2,none)] 1 3 fn_spec_FormulaValid:=fun hargs hw=>enter Tryz.func99 rfl IR_spec_FormulaValid hargs hw
def H_spec_NormalForm:Hint:=⟨[(0,false),(1,true),(2,true),(3,false),(4,true)],[]⟩
abbrev K45_1:C:=.seq (.pl <| .e 5 1 <|
 .o (.pget (some 5) none 4 0 (some 3)) <|
 .o (.pset none 2 0 3 (.v 5)) <|
 .x 3 (.mv (.c (.bool true))) .done) (.ret)
abbrev K45_2:C:=.seq (.pl <| .e 5 1 <|
 .x 5 (.build [.int .i64 0,.int .i64 0,.slice none 0 0] []) <|
 .o (.pset none 2 0 3 (.v 5)) <|
 .x 3 (.mv (.c (.bool false))) .done) (.ret)
abbrev K45_3:C:=.cond 5 (.v 7) K45_2 (.skip)
abbrev K45_4:Pl:=.x 7 (.un .not (.v 6)) .done
abbrev K45_5:C:=.seq (.seq (.pl <| .e 5 3 <|
 .o (.pget (some 5) none 4 0 (some 3)) <|
 .c 6 (.call fn_spec_FormulaValid [.v 5]) K45_4) K45_3) K45_1
abbrev K45_6:Pl:=.o (.pnew 4 (.c (.agg #[.int .i64 0,.int .i64 0,.slice none 0 0])) []) <|
 .o (.pset none 4 0 3 (.v 6)) .done
abbrev K45_7:C:=.seq (.pl <| .e 5 2 <|
 .o (.pget (some 5) none 1 0 (some 3)) <|
 .c 6 (.call fn_spec_l5Push [.v 5,.c (.bool false)]) K45_6) K45_5
abbrev K45_8:C:=.seq (.pl <| .e 5 1 <|
 .x 5 (.build [.int .i64 0,.int .i64 0,.slice none 0 0] []) <|
 .o (.pset none 2 0 3 (.v 5)) <|
 .x 3 (.mv (.c (.bool false))) .done) (.ret)
abbrev K45_9:C:=.cond 5 (.v 7) K45_8 (.skip)
abbrev K45_10:Pl:=.x 7 (.un .not (.v 6)) .done
abbrev K45_11:C:=.seq (.seq (.pl <| .e 5 3 <|
 .o (.pget (some 5) none 1 0 (some 3)) <|
 .c 6 (.call fn_spec_FormulaValid [.v 5]) K45_10) K45_9) K45_7
abbrev B_spec_NormalForm:C:=.seq (.pl <| .e 5 0 <|
 .o (.pnew 1 (.v 0) []) <|
 .o (.pnew 2 (.c (.agg #[.int .i64 0,.int .i64 0,.slice none 0 0])) []) <|
 .x 3 (.mv (.c (.bool false))) .done) K45_11
def R_spec_NormalForm:FIR:=⟨B_spec_NormalForm,5,[(2,some (some 3)),(3,none)]⟩
theorem IR_spec_NormalForm:cfun Tryz.prog H_spec_NormalForm Tryz.f45=some R_spec_NormalForm:=by kernel_rfl
theorem EN_spec_NormalForm:ENT Tryz.prog B_spec_NormalForm [(2,some (some 3)),(3,none)] 1 5 fn_spec_NormalForm:=fun hargs hw=>enter Tryz.func45 rfl IR_spec_NormalForm hargs hw
def H_spec_TranslateFormula:Hint:=⟨[(0,false),(1,true),(2,true),(3,false),(4,false),(5,false),(6,true),(8,false),(9,false),(10,true),(11,false),(12,false),(13,false),(14,false),(15,false),(16,false),(17,false),(18,false),(19,false),(20,false)],[[0,1,3,5,12,13,14,15,16,17,18,19],[0,1,3,5,6,11,13,14,15,16,17,18,19],[0,1,3,5,6,11,15,19]]⟩
abbrev K11_1:C:=.seq (.pl <| .e 20 1 <|
 .o (.pget (some 20) none 9 0 (some 3)) <|
 .o (.pset none 2 0 3 (.v 20)) <|
 .x 3 (.mv (.c (.bool true))) .done) (.ret)
abbrev K11_2:Pl:=.a 21 9 <|
 .o (.pset (some 21) 9 1 1 (.v 20)) .done
abbrev K11_3:C:=.pl <| .e 20 2 <|
 .c 20 (.bls 1 1 [.bool false] [(0,1,.c (.bool false))]) K11_2
abbrev K11_4:C:=.cond 20 (.v 22) K11_3 (.skip)
abbrev K11_5:C:=.seq (.seq (.pl <| .e 20 3 <|
 .m 20 10 <|
 .x 21 (.lenV (.v 20)) <|
 .x 22 (.bin .eql (.v 21) (.c (.int .i64 0))) .done) K11_4) K11_1
abbrev K11_6:C:=.pl <| .e 20 2 <|
 .m 20 12 <|
 .x 21 (.bin .add (.v 20) (.c (.int .i64 1))) <|
 .m 12 21 .done
abbrev K11_7:C:=.pl <| .e 20 2 <|
 .m 20 18 <|
 .x 21 (.bin .add (.v 20) (.c (.int .i64 1))) <|
 .m 18 21 .done
abbrev K11_8:Pl:=.a 29 9 <|
 .o (.pset (some 29) 9 2 1 (.v 28)) .done
abbrev K11_9:C:=.pl <| .e 20 10 <|
 .a 20 9 <|
 .g 21 20 9 2 <|
 .m 22 12 <|
 .m 23 16 <|
 .m 24 17 <|
 .m 25 19 <|
 .x 26 (.build [.int .i64 0,.int .i64 0,.int .i64 0,.int .i64 0] [(0,1,.v 22),(1,1,.v 23),(2,1,.v 24),(3,1,.v 25)]) <|
 .o (.psl 27 [.int .i64 0,.int .i64 0,.int .i64 0,.int .i64 0] [(0,4,.v 26)]) <|
 .c 28 (.app 32 4 [.int .i64 0,.int .i64 0,.int .i64 0,.int .i64 0] (.o (.v 21)) (.p 1 27)) K11_8
abbrev K11_10:Pl:=.m 25 24 <|
 .x 26 (.extract 0 (.v 25)) <|
 .x 27 (.extract 1 (.v 25)) <|
 .m 10 26 <|
 .m 19 27 .done
abbrev K11_11:Pl:=.c 24 (.call fn_spec_l7Pair [.v 20,.v 23]) K11_10
abbrev K11_12:C:=.seq (.pl <| .e 20 8 <|
 .m 20 10 <|
 .m 21 18 <|
 .m 22 14 <|
 .c 23 (.bls 1 2 [.int .i64 0] [(0,1,.v 21),(1,1,.v 22)]) K11_11) K11_9
abbrev K11_13:C:=.seq (.pl <| .e 20 0 <|
 .x 19 (.mv (.c (.int .i64 0))) .done) K11_12
abbrev K11_14:C:=.cond 20 (.v 23) K11_13 (.skip)
abbrev K11_15:C:=.seq (.block 5 (.seq (.pl <| .e 20 4 <|
 .m 20 4 <|
 .m 21 13 <|
 .m 22 18 <|
 .c 23 (.call fn_spec_l7Follows [.v 20,.v 21,.v 22]) .done) K11_14)) K11_7
abbrev K11_16:C:=.cond 20 (.v 22) (.skip) (.exit 4)
abbrev K11_17:C:=.seq (.seq (.pl <| .e 20 3 <|
 .m 20 18 <|
 .m 21 7 <|
 .x 22 (.bin .lss (.v 20) (.v 21)) .done) K11_16) K11_15
abbrev K11_18:C:=.block 4 (.loop 20 [0,1,3,5,6,11,15,19] K11_17)
abbrev K11_19:C:=.seq (.pl <| .e 20 0 <|
 .x 18 (.mv (.c (.int .i64 0))) .done) K11_18
abbrev K11_20:Pl:=.m 23 22 <|
 .x 24 (.extract 0 (.v 23)) <|
 .x 25 (.extract 1 (.v 23)) <|
 .m 16 24 <|
 .m 17 25 .done
abbrev K11_21:C:=.seq (.pl <| .e 20 6 <|
 .m 20 4 <|
 .m 21 13 <|
 .c 22 (.call fn_spec_l7Letter [.v 20,.v 21]) K11_20) K11_19
abbrev K11_22:Pl:=.a 25 9 <|
 .o (.pset (some 25) 9 1 1 (.v 24)) .done
abbrev K11_23:C:=.seq (.pl <| .e 20 6 <|
 .a 20 9 <|
 .g 21 20 9 1 <|
 .m 22 15 <|
 .o (.psl 23 [.bool false] [(0,1,.v 22)]) <|
 .c 24 (.app 1 1 [.bool false] (.o (.v 21)) (.p 1 23)) K11_22) K11_21
abbrev K11_24:Pl:=.m 30 29 <|
 .x 31 (.extract 0 (.v 30)) <|
 .x 32 (.extract 1 (.v 30)) <|
 .m 14 31 <|
 .m 15 32 .done
abbrev K11_25:C:=.seq (.pl <| .e 20 13 <|
 .m 20 4 <|
 .m 21 8 <|
 .m 22 13 <|
 .m 23 10 <|
 .m 24 12 <|
 .x 25 (.ia 1 (.v 23) (.v 24)) <|
 .l 26 25 <|
 .x 27 (.ia 1 (.v 26) (.c (.int .i64 1))) <|
 .l 28 27 <|
 .c 29 (.call fn_spec_l7Phase [.v 20,.v 21,.v 22,.v 28]) K11_24) K11_23
abbrev K11_26:C:=.seq (.pl <| .e 20 6 <|
 .m 20 10 <|
 .m 21 12 <|
 .x 22 (.ia 1 (.v 20) (.v 21)) <|
 .l 23 22 <|
 .x 24 (.ia 1 (.v 23) (.c (.int .i64 0))) <|
 .l 25 24 <|
 .m 13 25 .done) K11_25
abbrev K11_27:C:=.seq (.pl <| .e 20 1 <|
 .x 20 (.build [.slice none 0 0,.slice none 0 0,.slice none 0 0] []) <|
 .o (.pset none 2 0 3 (.v 20)) <|
 .x 3 (.mv (.c (.bool false))) .done) (.ret)
abbrev K11_28:C:=.cond 20 (.v 22) K11_27 (.skip)
abbrev K11_29:C:=.seq (.block 3 (.seq (.seq (.pl <| .e 20 3 <|
 .m 20 10 <|
 .x 21 (.lenV (.v 20)) <|
 .x 22 (.bin .gtr (.v 21) (.c (.int .i64 64))) .done) K11_28) K11_26)) K11_6
abbrev K11_30:C:=.cond 20 (.v 23) (.skip) (.exit 2)
abbrev K11_31:C:=.seq (.seq (.pl <| .e 20 4 <|
 .m 20 12 <|
 .m 21 10 <|
 .x 22 (.lenV (.v 21)) <|
 .x 23 (.bin .lss (.v 20) (.v 22)) .done) K11_30) K11_29
abbrev K11_32:C:=.block 2 (.loop 20 [0,1,3,5,6,11,13,14,15,16,17,18,19] K11_31)
abbrev K11_33:C:=.seq (.seq (.pl <| .e 20 0 <|
 .x 12 (.mv (.c (.int .i64 0))) .done) K11_32) K11_5
abbrev K11_34:C:=.pl <| .e 20 2 <|
 .m 20 11 <|
 .x 21 (.bin .add (.v 20) (.c (.int .i64 1))) <|
 .m 11 21 .done
abbrev K11_35:Pl:=.m 10 24 .done
abbrev K11_36:Pl:=.o (.psl 23 [.slice none 0 0] [(0,1,.v 22)]) <|
 .c 24 (.app 24 1 [.slice none 0 0] (.o (.v 20)) (.p 1 23)) K11_35
abbrev K11_37:C:=.pl <| .e 20 5 <|
 .m 20 10 <|
 .m 21 11 <|
 .c 22 (.bls 1 2 [.int .i64 0] [(0,1,.v 21),(1,1,.c (.int .i64 0))]) K11_36
abbrev K11_38:Pl:=.a 26 9 <|
 .o (.pset (some 26) 9 0 1 (.v 25)) .done
abbrev K11_39:C:=.seq (.pl <| .e 20 7 <|
 .a 20 9 <|
 .g 21 20 9 0 <|
 .m 22 10 <|
 .x 23 (.lenV (.v 22)) <|
 .o (.psl 24 [.int .i64 0] [(0,1,.v 23)]) <|
 .c 25 (.app 8 1 [.int .i64 0] (.o (.v 21)) (.p 1 24)) K11_38) K11_37
abbrev K11_40:C:=.cond 20 (.v 23) K11_39 (.skip)
abbrev K11_41:C:=.seq (.block 1 (.seq (.pl <| .e 20 4 <|
 .m 20 4 <|
 .m 21 11 <|
 .o (.pget (some 22) none 6 0 (some 3)) <|
 .c 23 (.call fn_spec_l7Value [.v 20,.v 21,.v 22]) .done) K11_40)) K11_34
abbrev K11_42:C:=.cond 20 (.v 22) (.skip) (.exit 0)
abbrev K11_43:C:=.seq (.seq (.pl <| .e 20 3 <|
 .m 20 11 <|
 .m 21 7 <|
 .x 22 (.bin .lss (.v 20) (.v 21)) .done) K11_42) K11_41
abbrev K11_44:C:=.block 0 (.loop 20 [0,1,3,5,12,13,14,15,16,17,18,19] K11_43)
abbrev K11_45:C:=.seq (.seq (.pl <| .e 20 0 <|
 .x 11 (.mv (.c (.int .i64 0))) .done) K11_44) K11_33
abbrev K11_46:Pl:=.m 10 20 .done
abbrev K11_47:C:=.seq (.pl <| .e 20 1 <|
 .c 20 (.bls 1 0 [.slice none 0 0] []) K11_46) K11_45
abbrev K11_48:C:=.seq (.pl <| .e 20 1 <|
 .x 20 (.build [.slice none 0 0,.slice none 0 0,.slice none 0 0] []) <|
 .o (.pnew 9 (.c (.agg #[.slice none 0 0,.slice none 0 0,.slice none 0 0])) []) <|
 .o (.pset none 9 0 3 (.v 20)) .done) K11_47
abbrev K11_49:Pl:=.m 8 21 .done
abbrev K11_50:C:=.seq (.pl <| .e 20 2 <|
 .m 20 4 <|
 .c 21 (.call fn_spec_l7Untils [.v 20]) K11_49) K11_48
abbrev K11_51:C:=.seq (.pl <| .e 20 4 <|
 .m 20 4 <|
 .x 21 (.lenV (.v 20)) <|
 .x 22 (.conv .u64 (.v 21)) <|
 .x 23 (.bin .shl (.c (.int .i64 1)) (.v 22)) <|
 .m 7 23 .done) K11_50
abbrev K11_52:Pl:=.m 22 21 <|
 .x 23 (.extract 0 (.v 22)) <|
 .x 24 (.extract 1 (.v 22)) <|
 .o (.pnew 6 (.c (.agg #[.int .i64 0,.int .i64 0,.slice none 0 0])) []) <|
 .o (.pset none 6 0 3 (.v 23)) <|
 .m 25 24 .done
abbrev K11_53:C:=.seq (.pl <| .e 20 6 <|
 .o (.pget (some 20) none 1 0 (some 3)) <|
 .c 21 (.call fn_spec_NormalForm [.v 20]) K11_52) K11_51
abbrev K11_54:C:=.seq (.pl <| .e 20 1 <|
 .x 20 (.build [.slice none 0 0,.slice none 0 0,.slice none 0 0] []) <|
 .o (.pset none 2 0 3 (.v 20)) <|
 .x 3 (.mv (.c (.bool false))) .done) (.ret)
abbrev K11_55:C:=.cond 20 (.v 21) K11_54 (.skip)
abbrev K11_56:C:=.seq (.seq (.pl <| .e 20 2 <|
 .m 20 5 <|
 .x 21 (.un .not (.v 20)) .done) K11_55) K11_53
abbrev K11_57:Pl:=.m 22 21 <|
 .x 23 (.extract 0 (.v 22)) <|
 .x 24 (.extract 1 (.v 22)) <|
 .m 4 23 <|
 .m 5 24 .done
abbrev K11_58:C:=.seq (.pl <| .e 20 5 <|
 .o (.pget (some 20) none 1 0 (some 3)) <|
 .c 21 (.call fn_spec_BasicFormulas [.v 20]) K11_57) K11_56
abbrev B_spec_TranslateFormula:C:=.seq (.pl <| .e 20 0 <|
 .o (.pnew 1 (.v 0) []) <|
 .o (.pnew 2 (.c (.agg #[.slice none 0 0,.slice none 0 0,.slice none 0 0])) []) <|
 .x 3 (.mv (.c (.bool false))) .done) K11_58
def R_spec_TranslateFormula:FIR:=⟨B_spec_TranslateFormula,20,[(2,some (some 3)),(3,none)]⟩
theorem IR_spec_TranslateFormula:cfun Tryz.prog H_spec_TranslateFormula Tryz.f11=some R_spec_TranslateFormula:=by kernel_rfl
theorem EN_spec_TranslateFormula:ENT Tryz.prog B_spec_TranslateFormula [(2,some (some 3)),(3,none)] 1 20 fn_spec_TranslateFormula:=fun hargs hw=>enter Tryz.func11 rfl IR_spec_TranslateFormula hargs hw
def H_spec_l2Ints:Hint:=⟨[(0,false),(1,false),(4,false),(5,false)],[[2]]⟩
abbrev K104_1:C:=.seq (.pl <| .e 4 0 <|
 .x 2 (.mv (.c (.bool true))) .done) (.ret)
abbrev K104_2:C:=.pl <| .e 4 2 <|
 .m 4 3 <|
 .x 5 (.bin .add (.v 4) (.c (.int .i64 1))) <|
 .m 3 5 .done
abbrev K104_3:C:=.seq (.pl <| .e 4 0 <|
 .x 2 (.mv (.c (.bool false))) .done) (.ret)
abbrev K104_4:C:=.cond 4 (.v 12) K104_3 (.skip)
abbrev K104_5:C:=.seq (.block 1 (.seq (.pl <| .e 4 9 <|
 .m 4 0 <|
 .m 5 3 <|
 .x 6 (.ia 1 (.v 4) (.v 5)) <|
 .l 7 6 <|
 .m 8 1 <|
 .m 9 3 <|
 .x 10 (.ia 1 (.v 8) (.v 9)) <|
 .l 11 10 <|
 .x 12 (.bin .neq (.v 7) (.v 11)) .done) K104_4)) K104_2
abbrev K104_6:C:=.cond 4 (.v 7) (.skip) (.exit 0)
abbrev K104_7:C:=.seq (.seq (.pl <| .e 4 4 <|
 .m 4 3 <|
 .m 5 0 <|
 .x 6 (.lenV (.v 5)) <|
 .x 7 (.bin .lss (.v 4) (.v 6)) .done) K104_6) K104_5
abbrev K104_8:C:=.block 0 (.loop 4 [2] K104_7)
abbrev K104_9:C:=.seq (.seq (.pl <| .e 4 0 <|
 .x 3 (.mv (.c (.int .i64 0))) .done) K104_8) K104_1
abbrev K104_10:C:=.seq (.pl <| .e 4 0 <|
 .x 2 (.mv (.c (.bool false))) .done) (.ret)
abbrev K104_11:C:=.cond 4 (.v 8) K104_10 (.skip)
abbrev K104_12:C:=.seq (.seq (.pl <| .e 4 5 <|
 .m 4 0 <|
 .x 5 (.lenV (.v 4)) <|
 .m 6 1 <|
 .x 7 (.lenV (.v 6)) <|
 .x 8 (.bin .neq (.v 5) (.v 7)) .done) K104_11) K104_9
abbrev B_spec_l2Ints:C:=.seq (.pl <| .e 4 0 <|
 .x 2 (.mv (.c (.bool false))) .done) K104_12
def R_spec_l2Ints:FIR:=⟨B_spec_l2Ints,4,[(2,none)]⟩
theorem IR_spec_l2Ints:cfun Tryz.prog H_spec_l2Ints Tryz.f104=some R_spec_l2Ints:=by kernel_rfl
theorem EN_spec_l2Ints:ENT Tryz.prog B_spec_l2Ints [(2,none)] 2 4 fn_spec_l2Ints:=fun hargs hw=>enter Tryz.func104 rfl IR_spec_l2Ints hargs hw
def H_spec_l5Arity:Hint:=⟨[(0,false),(2,false),(3,false),(4,false),(7,false),(12,false)],[]⟩
abbrev K162_1:C:=.seq (.pl <| .e 6 0 <|
 .x 1 (.mv (.c (.int .i64 (-1)))) .done) (.ret)
abbrev K162_2:C:=.seq (.pl <| .e 6 0 <|
 .x 1 (.mv (.c (.int .i64 0))) .done) (.ret)
abbrev K162_3:C:=.seq (.pl <| .e 6 0 <|
 .x 1 (.mv (.c (.int .i64 1))) .done) (.ret)
abbrev K162_4:C:=.seq (.pl <| .e 6 0 <|
 .x 1 (.mv (.c (.int .i64 2))) .done) (.ret)
abbrev K162_5:C:=.cond 6 (.v 5) K162_4 (.skip)
abbrev K162_6:C:=.pl <| .e 6 1 <|
 .x 6 (.bin .eql (.v 2) (.c (.int .i64 8))) <|
 .m 5 6 .done
abbrev K162_7:C:=.cond 6 (.v 5) (.skip) K162_6
abbrev K162_8:C:=.seq (.pl <| .e 6 1 <|
 .x 6 (.bin .eql (.v 2) (.c (.int .i64 7))) <|
 .m 5 6 .done) K162_7
abbrev K162_9:C:=.cond 6 (.v 5) (.skip) K162_8
abbrev K162_10:C:=.seq (.pl <| .e 6 1 <|
 .x 6 (.bin .eql (.v 2) (.c (.int .i64 5))) <|
 .m 5 6 .done) K162_9
abbrev K162_11:C:=.cond 6 (.v 5) (.skip) K162_10
abbrev K162_12:C:=.seq (.seq (.pl <| .e 6 1 <|
 .x 6 (.bin .eql (.v 2) (.c (.int .i64 4))) <|
 .m 5 6 .done) K162_11) K162_5
abbrev K162_13:C:=.cond 6 (.v 4) K162_3 K162_12
abbrev K162_14:C:=.pl <| .e 6 1 <|
 .x 6 (.bin .eql (.v 2) (.c (.int .i64 10))) <|
 .m 4 6 .done
abbrev K162_15:C:=.cond 6 (.v 4) (.skip) K162_14
abbrev K162_16:C:=.seq (.pl <| .e 6 1 <|
 .x 6 (.bin .eql (.v 2) (.c (.int .i64 9))) <|
 .m 4 6 .done) K162_15
abbrev K162_17:C:=.cond 6 (.v 4) (.skip) K162_16
abbrev K162_18:C:=.seq (.pl <| .e 6 1 <|
 .x 6 (.bin .eql (.v 2) (.c (.int .i64 6))) <|
 .m 4 6 .done) K162_17
abbrev K162_19:C:=.cond 6 (.v 4) (.skip) K162_18
abbrev K162_20:C:=.seq (.seq (.pl <| .e 6 1 <|
 .x 6 (.bin .eql (.v 2) (.c (.int .i64 3))) <|
 .m 4 6 .done) K162_19) K162_13
abbrev K162_21:C:=.cond 6 (.v 3) K162_2 K162_20
abbrev K162_22:C:=.pl <| .e 6 1 <|
 .x 6 (.bin .eql (.v 2) (.c (.int .i64 2))) <|
 .m 3 6 .done
abbrev K162_23:C:=.cond 6 (.v 3) (.skip) K162_22
abbrev K162_24:C:=.block 0 (.seq (.seq (.pl <| .e 6 1 <|
 .x 6 (.bin .eql (.v 2) (.c (.int .i64 1))) <|
 .m 3 6 .done) K162_23) K162_21)
abbrev K162_25:C:=.seq (.seq (.pl <| .e 6 0 <|
 .m 2 0 .done) K162_24) K162_1
abbrev B_spec_l5Arity:C:=.seq (.pl <| .e 6 0 <|
 .x 1 (.mv (.c (.int .i64 0))) .done) K162_25
def R_spec_l5Arity:FIR:=⟨B_spec_l5Arity,6,[(1,none)]⟩
theorem IR_spec_l5Arity:cfun Tryz.prog H_spec_l5Arity Tryz.f162=some R_spec_l5Arity:=by kernel_rfl
theorem EN_spec_l5Arity:ENT Tryz.prog B_spec_l5Arity [(1,none)] 1 6 fn_spec_l5Arity:=fun hargs hw=>enter Tryz.func162 rfl IR_spec_l5Arity hargs hw
def H_spec_l5Copy:Hint:=⟨[(0,false),(1,true),(2,true),(3,true),(4,false)],[[0]]⟩
abbrev K132_1:C:=.seq (.pl <| .e 5 1 <|
 .o (.pget (some 5) none 3 0 (some 3)) <|
 .o (.pset none 2 0 3 (.v 5)) .done) (.ret)
abbrev K132_2:C:=.pl <| .e 5 2 <|
 .m 5 4 <|
 .x 6 (.bin .add (.v 5) (.c (.int .i64 1))) <|
 .m 4 6 .done
abbrev K132_3:Pl:=.a 15 3 <|
 .o (.pset (some 15) 3 2 1 (.v 14)) .done
abbrev K132_4:Pl:=.o (.psl 13 [.int .i64 0,.int .i64 0,.slice none 0 0] [(0,3,.v 12)]) <|
 .c 14 (.app 40 3 [.int .i64 0,.int .i64 0,.slice none 0 0] (.o (.v 6)) (.p 1 13)) K132_3
abbrev K132_5:C:=.seq (.block 1 (.pl <| .e 5 11 <|
 .a 5 3 <|
 .g 6 5 3 2 <|
 .a 7 1 <|
 .g 8 7 1 2 <|
 .m 9 4 <|
 .x 10 (.ia 3 (.v 8) (.v 9)) <|
 .o (.ld (some 11) (.v 10) (some 3)) <|
 .c 12 (.call fn_spec_l5Copy [.v 11]) K132_4)) K132_2
abbrev K132_6:C:=.cond 5 (.v 9) (.skip) (.exit 0)
abbrev K132_7:C:=.seq (.seq (.pl <| .e 5 5 <|
 .m 5 4 <|
 .a 6 1 <|
 .g 7 6 1 2 <|
 .x 8 (.lenV (.v 7)) <|
 .x 9 (.bin .lss (.v 5) (.v 8)) .done) K132_6) K132_5
abbrev K132_8:C:=.block 0 (.loop 5 [0] K132_7)
abbrev K132_9:C:=.seq (.seq (.pl <| .e 5 0 <|
 .x 4 (.mv (.c (.int .i64 0))) .done) K132_8) K132_1
abbrev K132_10:C:=.seq (.pl <| .e 5 5 <|
 .a 5 1 <|
 .g 6 5 1 0 <|
 .a 7 1 <|
 .g 8 7 1 1 <|
 .x 9 (.build [.int .i64 0,.int .i64 0,.slice none 0 0] [(0,1,.v 6),(1,1,.v 8)]) <|
 .o (.pnew 3 (.c (.agg #[.int .i64 0,.int .i64 0,.slice none 0 0])) []) <|
 .o (.pset none 3 0 3 (.v 9)) .done) K132_9
abbrev B_spec_l5Copy:C:=.seq (.pl <| .e 5 0 <|
 .o (.pnew 1 (.v 0) []) <|
 .o (.pnew 2 (.c (.agg #[.int .i64 0,.int .i64 0,.slice none 0 0])) []) .done) K132_10
def R_spec_l5Copy:FIR:=⟨B_spec_l5Copy,5,[(2,some (some 3))]⟩
theorem IR_spec_l5Copy:cfun Tryz.prog H_spec_l5Copy Tryz.f132=some R_spec_l5Copy:=by kernel_rfl
theorem EN_spec_l5Copy:ENT Tryz.prog B_spec_l5Copy [(2,some (some 3))] 1 5 fn_spec_l5Copy:=fun hargs hw=>enter Tryz.func132 rfl IR_spec_l5Copy hargs hw
def H_spec_l5Count:Hint:=⟨[(0,false),(1,false),(2,true),(4,false),(5,false),(6,false)],[[0,3]]⟩
abbrev K149_1:C:=.seq (.pl <| .e 6 1 <|
 .m 6 4 <|
 .m 3 6 .done) (.ret)
abbrev K149_2:C:=.pl <| .e 6 2 <|
 .m 6 5 <|
 .x 7 (.bin .add (.v 6) (.c (.int .i64 1))) <|
 .m 5 7 .done
abbrev K149_3:Pl:=.x 15 (.bin .add (.v 6) (.v 14)) <|
 .m 4 15 .done
abbrev K149_4:C:=.seq (.block 1 (.pl <| .e 6 10 <|
 .m 6 4 <|
 .a 7 2 <|
 .g 8 7 2 2 <|
 .m 9 5 <|
 .x 10 (.ia 3 (.v 8) (.v 9)) <|
 .o (.ld (some 11) (.v 10) (some 3)) <|
 .m 12 1 <|
 .x 13 (.bin .sub (.v 12) (.c (.int .i64 1))) <|
 .c 14 (.call fn_spec_l5Count [.v 11,.v 13]) K149_3)) K149_2
abbrev K149_5:C:=.cond 6 (.v 14) (.skip) (.exit 0)
abbrev K149_6:C:=.seq (.seq (.pl <| .e 6 9 <|
 .m 6 5 <|
 .a 7 2 <|
 .g 8 7 2 2 <|
 .x 9 (.lenV (.v 8)) <|
 .x 10 (.bin .lss (.v 6) (.v 9)) <|
 .m 11 10 <|
 .y 11 (.px (some 12) (.mv (.v 1))) <|
 .y 11 (.px (some 13) (.bin .gtr (.v 12) (.c (.int .i64 0)))) <|
 .x 14 (.pick (.v 11) (.v 13) (.c (.bool false))) .done) K149_5) K149_4
abbrev K149_7:C:=.block 0 (.loop 6 [0,3] K149_6)
abbrev K149_8:C:=.seq (.seq (.pl <| .e 6 0 <|
 .x 5 (.mv (.c (.int .i64 0))) .done) K149_7) K149_1
abbrev K149_9:C:=.seq (.pl <| .e 6 0 <|
 .x 4 (.mv (.c (.int .i64 1))) .done) K149_8
abbrev B_spec_l5Count:C:=.seq (.pl <| .e 6 0 <|
 .o (.pnew 2 (.v 0) []) <|
 .x 3 (.mv (.c (.int .i64 0))) .done) K149_9
def R_spec_l5Count:FIR:=⟨B_spec_l5Count,6,[(3,none)]⟩
theorem IR_spec_l5Count:cfun Tryz.prog H_spec_l5Count Tryz.f149=some R_spec_l5Count:=by kernel_rfl
theorem EN_spec_l5Count:ENT Tryz.prog B_spec_l5Count [(3,none)] 2 6 fn_spec_l5Count:=fun hargs hw=>enter Tryz.func149 rfl IR_spec_l5Count hargs hw
def H_spec_l5Dual:Hint:=⟨[(0,false),(2,false),(3,false)],[]⟩
abbrev K151_1:C:=.seq (.pl <| .e 3 0 <|
 .x 1 (.mv (.c (.int .i64 7))) .done) (.ret)
abbrev K151_2:C:=.seq (.pl <| .e 3 0 <|
 .x 1 (.mv (.c (.int .i64 5))) .done) (.ret)
abbrev K151_3:C:=.seq (.pl <| .e 3 0 <|
 .x 1 (.mv (.c (.int .i64 4))) .done) (.ret)
abbrev K151_4:C:=.seq (.pl <| .e 3 0 <|
 .x 1 (.mv (.c (.int .i64 8))) .done) (.ret)
abbrev K151_5:C:=.cond 3 (.v 4) K151_4 (.skip)
abbrev K151_6:C:=.seq (.pl <| .e 3 2 <|
 .x 3 (.bin .eql (.v 2) (.c (.int .i64 7))) <|
 .m 4 3 .done) K151_5
abbrev K151_7:C:=.cond 3 (.v 4) K151_3 K151_6
abbrev K151_8:C:=.seq (.pl <| .e 3 2 <|
 .x 3 (.bin .eql (.v 2) (.c (.int .i64 5))) <|
 .m 4 3 .done) K151_7
abbrev K151_9:C:=.cond 3 (.v 4) K151_2 K151_8
abbrev K151_10:C:=.block 0 (.seq (.pl <| .e 3 2 <|
 .x 3 (.bin .eql (.v 2) (.c (.int .i64 4))) <|
 .m 4 3 .done) K151_9)
abbrev K151_11:C:=.seq (.seq (.pl <| .e 3 0 <|
 .m 2 0 .done) K151_10) K151_1
abbrev B_spec_l5Dual:C:=.seq (.pl <| .e 3 0 <|
 .x 1 (.mv (.c (.int .i64 0))) .done) K151_11
def R_spec_l5Dual:FIR:=⟨B_spec_l5Dual,3,[(1,none)]⟩
theorem IR_spec_l5Dual:cfun Tryz.prog H_spec_l5Dual Tryz.f151=some R_spec_l5Dual:=by kernel_rfl
theorem EN_spec_l5Dual:ENT Tryz.prog B_spec_l5Dual [(1,none)] 1 3 fn_spec_l5Dual:=fun hargs hw=>enter Tryz.func151 rfl IR_spec_l5Dual hargs hw
def H_spec_l5Find:Hint:=⟨[(0,false),(1,false),(3,true),(4,false),(5,false)],[[1,3]]⟩
abbrev K102_1:C:=.seq (.pl <| .e 5 0 <|
 .x 3 (.mv (.c (.int .i64 (-1)))) .done) (.ret)
abbrev K102_2:C:=.pl <| .e 5 2 <|
 .m 5 4 <|
 .x 6 (.bin .add (.v 5) (.c (.int .i64 1))) <|
 .m 4 6 .done
abbrev K102_3:C:=.seq (.pl <| .e 5 1 <|
 .m 5 4 <|
 .m 3 5 .done) (.ret)
abbrev K102_4:C:=.cond 5 (.v 10) K102_3 (.skip)
abbrev K102_5:C:=.seq (.block 1 (.seq (.pl <| .e 5 6 <|
 .m 5 0 <|
 .m 6 4 <|
 .x 7 (.ia 3 (.v 5) (.v 6)) <|
 .o (.ld (some 8) (.v 7) (some 3)) <|
 .o (.pget (some 9) none 2 0 (some 3)) <|
 .c 10 (.call fn_spec_FormulaSame [.v 8,.v 9]) .done) K102_4)) K102_2
abbrev K102_6:C:=.cond 5 (.v 8) (.skip) (.exit 0)
abbrev K102_7:C:=.seq (.seq (.pl <| .e 5 4 <|
 .m 5 4 <|
 .m 6 0 <|
 .x 7 (.lenV (.v 6)) <|
 .x 8 (.bin .lss (.v 5) (.v 7)) .done) K102_6) K102_5
abbrev K102_8:C:=.block 0 (.loop 5 [1,3] K102_7)
abbrev K102_9:C:=.seq (.seq (.pl <| .e 5 0 <|
 .x 4 (.mv (.c (.int .i64 0))) .done) K102_8) K102_1
abbrev B_spec_l5Find:C:=.seq (.pl <| .e 5 0 <|
 .o (.pnew 2 (.v 1) []) <|
 .x 3 (.mv (.c (.int .i64 0))) .done) K102_9
def R_spec_l5Find:FIR:=⟨B_spec_l5Find,5,[(3,none)]⟩
theorem IR_spec_l5Find:cfun Tryz.prog H_spec_l5Find Tryz.f102=some R_spec_l5Find:=by kernel_rfl
theorem EN_spec_l5Find:ENT Tryz.prog B_spec_l5Find [(3,none)] 2 5 fn_spec_l5Find:=fun hargs hw=>enter Tryz.func102 rfl IR_spec_l5Find hargs hw
def H_spec_l5Not:Hint:=⟨[(0,false),(1,true),(2,true)],[]⟩
abbrev K150_1:Pl:=.x 5 (.build [.int .i64 0,.int .i64 0,.slice none 0 0] [(0,1,.c (.int .i64 3)),(2,1,.v 4)]) <|
 .o (.pset none 2 0 3 (.v 5)) .done
abbrev K150_2:C:=.seq (.pl <| .e 3 3 <|
 .o (.pget (some 3) none 1 0 (some 3)) <|
 .c 4 (.bls 3 1 [.int .i64 0,.int .i64 0,.slice none 0 0] [(0,3,.v 3)]) K150_1) (.ret)
abbrev B_spec_l5Not:C:=.seq (.pl <| .e 3 0 <|
 .o (.pnew 1 (.v 0) []) <|
 .o (.pnew 2 (.c (.agg #[.int .i64 0,.int .i64 0,.slice none 0 0])) []) .done) K150_2
def R_spec_l5Not:FIR:=⟨B_spec_l5Not,3,[(2,some (some 3))]⟩
theorem IR_spec_l5Not:cfun Tryz.prog H_spec_l5Not Tryz.f150=some R_spec_l5Not:=by kernel_rfl
theorem EN_spec_l5Not:ENT Tryz.prog B_spec_l5Not [(2,some (some 3))] 1 3 fn_spec_l5Not:=fun hargs hw=>enter Tryz.func150 rfl IR_spec_l5Not hargs hw
def H_spec_l5Push:Hint:=⟨[(0,false),(1,false),(2,true),(4,true),(5,true),(6,false),(8,false),(9,false),(43,false)],[]⟩
abbrev K100_1:Pl:=.x 23 (.build [.int .i64 0,.int .i64 0,.slice none 0 0] [(0,1,.v 9),(2,1,.v 22)]) <|
 .o (.pset none 3 0 3 (.v 23)) .done
abbrev K100_2:Pl:=.c 22 (.bls 3 2 [.int .i64 0,.int .i64 0,.slice none 0 0] [(0,3,.v 15),(3,3,.v 21)]) K100_1
abbrev K100_3:Pl:=.st (.re 19 (.v 18) (some 3) none) <|
 .c 21 (.call fn_spec_l5Push [.v 19,.v 20]) K100_2
abbrev K100_4:C:=.seq (.pl <| .e 9 15 <|
 .m 9 5 <|
 .a 10 2 <|
 .g 11 10 2 2 <|
 .x 12 (.ia 3 (.v 11) (.c (.int .i64 0))) <|
 .o (.ld (some 13) (.v 12) (some 3)) <|
 .m 14 1 <|
 .a 16 2 <|
 .g 17 16 2 2 <|
 .x 18 (.ia 3 (.v 17) (.c (.int .i64 1))) <|
 .o (.ld (some 19) (.v 18) (some 3)) <|
 .m 20 1 <|
 .c 15 (.call fn_spec_l5Push [.v 13,.v 14]) K100_3) (.ret)
abbrev K100_5:Pl:=.m 5 10 .done
abbrev K100_6:C:=.pl <| .e 9 2 <|
 .m 9 5 <|
 .c 10 (.call fn_spec_l5Dual [.v 9]) K100_5
abbrev K100_7:C:=.cond 9 (.v 9) K100_6 (.skip)
abbrev K100_8:C:=.seq (.seq (.pl <| .e 9 1 <|
 .m 9 1 .done) K100_7) K100_4
abbrev K100_9:C:=.seq (.pl <| .e 9 2 <|
 .a 9 2 <|
 .g 10 9 2 0 <|
 .m 5 10 .done) K100_8
abbrev K100_10:C:=.seq (.pl <| .e 9 5 <|
 .a 9 2 <|
 .g 10 9 2 0 <|
 .a 11 2 <|
 .g 12 11 2 1 <|
 .x 13 (.build [.int .i64 0,.int .i64 0,.slice none 0 0] [(0,1,.v 10),(1,1,.v 12)]) <|
 .o (.pset none 3 0 3 (.v 13)) .done) (.ret)
abbrev K100_11:Pl:=.o (.pset none 3 0 3 (.v 14)) .done
abbrev K100_12:C:=.seq (.pl <| .e 9 6 <|
 .a 9 2 <|
 .g 10 9 2 0 <|
 .a 11 2 <|
 .g 12 11 2 1 <|
 .x 13 (.build [.int .i64 0,.int .i64 0,.slice none 0 0] [(0,1,.v 10),(1,1,.v 12)]) <|
 .c 14 (.call fn_spec_l5Not [.v 13]) K100_11) (.ret)
abbrev K100_13:C:=.cond 9 (.v 9) K100_12 (.skip)
abbrev K100_14:C:=.seq (.seq (.pl <| .e 9 1 <|
 .m 9 1 .done) K100_13) K100_10
abbrev K100_15:Pl:=.o (.pset none 3 0 3 (.v 15)) .done
abbrev K100_16:C:=.seq (.pl <| .e 9 7 <|
 .a 9 2 <|
 .g 10 9 2 2 <|
 .x 11 (.ia 3 (.v 10) (.c (.int .i64 0))) <|
 .o (.ld (some 12) (.v 11) (some 3)) <|
 .m 13 1 <|
 .x 14 (.un .not (.v 13)) <|
 .c 15 (.call fn_spec_l5Push [.v 12,.v 14]) K100_15) (.ret)
abbrev K100_17:Pl:=.x 16 (.build [.int .i64 0,.int .i64 0,.slice none 0 0] [(0,1,.c (.int .i64 6)),(2,1,.v 15)]) <|
 .o (.pset none 3 0 3 (.v 16)) .done
abbrev K100_18:Pl:=.c 15 (.bls 3 1 [.int .i64 0,.int .i64 0,.slice none 0 0] [(0,3,.v 14)]) K100_17
abbrev K100_19:C:=.seq (.pl <| .e 9 8 <|
 .a 9 2 <|
 .g 10 9 2 2 <|
 .x 11 (.ia 3 (.v 10) (.c (.int .i64 0))) <|
 .o (.ld (some 12) (.v 11) (some 3)) <|
 .m 13 1 <|
 .c 14 (.call fn_spec_l5Push [.v 12,.v 13]) K100_18) (.ret)
abbrev K100_20:Pl:=.x 13 (.build [.int .i64 0,.int .i64 0,.slice none 0 0] [(0,1,.c (.int .i64 8)),(2,1,.v 12)]) <|
 .o (.pset none 3 0 3 (.v 13)) .done
abbrev K100_21:Pl:=.c 12 (.bls 3 2 [.int .i64 0,.int .i64 0,.slice none 0 0] [(0,3,.v 10),(3,3,.v 11)]) K100_20
abbrev K100_22:Pl:=.c 10 (.call fn_spec_l5Not [.v 9]) K100_21
abbrev K100_23:C:=.seq (.pl <| .e 9 5 <|
 .o (.pget (some 11) none 4 0 (some 3)) <|
 .c 9 (.call fn_spec_l5True []) K100_22) (.ret)
abbrev K100_24:Pl:=.x 12 (.build [.int .i64 0,.int .i64 0,.slice none 0 0] [(0,1,.c (.int .i64 7)),(2,1,.v 11)]) <|
 .o (.pset none 3 0 3 (.v 12)) .done
abbrev K100_25:Pl:=.c 11 (.bls 3 2 [.int .i64 0,.int .i64 0,.slice none 0 0] [(0,3,.v 9),(3,3,.v 10)]) K100_24
abbrev K100_26:C:=.seq (.pl <| .e 9 4 <|
 .o (.pget (some 10) none 4 0 (some 3)) <|
 .c 9 (.call fn_spec_l5True []) K100_25) (.ret)
abbrev K100_27:C:=.cond 9 (.v 13) K100_26 (.skip)
abbrev K100_28:C:=.seq (.seq (.pl <| .e 9 5 <|
 .a 9 2 <|
 .g 10 9 2 0 <|
 .x 11 (.bin .eql (.v 10) (.c (.int .i64 9))) <|
 .m 12 1 <|
 .x 13 (.eqb true (.v 11) (.v 12)) .done) K100_27) K100_23
abbrev K100_29:Pl:=.o (.pnew 4 (.c (.agg #[.int .i64 0,.int .i64 0,.slice none 0 0])) []) <|
 .o (.pset none 4 0 3 (.v 14)) .done
abbrev K100_30:C:=.seq (.pl <| .e 9 6 <|
 .a 9 2 <|
 .g 10 9 2 2 <|
 .x 11 (.ia 3 (.v 10) (.c (.int .i64 0))) <|
 .o (.ld (some 12) (.v 11) (some 3)) <|
 .m 13 1 <|
 .c 14 (.call fn_spec_l5Push [.v 12,.v 13]) K100_29) K100_28
abbrev K100_31:C:=.cond 9 (.v 8) K100_30 (.skip)
abbrev K100_32:C:=.pl <| .e 9 1 <|
 .x 9 (.bin .eql (.v 6) (.c (.int .i64 10))) <|
 .m 8 9 .done
abbrev K100_33:C:=.cond 9 (.v 8) (.skip) K100_32
abbrev K100_34:C:=.seq (.seq (.pl <| .e 9 1 <|
 .x 9 (.bin .eql (.v 6) (.c (.int .i64 9))) <|
 .m 8 9 .done) K100_33) K100_31
abbrev K100_35:C:=.cond 9 (.v 10) K100_19 K100_34
abbrev K100_36:C:=.seq (.pl <| .e 9 2 <|
 .x 9 (.bin .eql (.v 6) (.c (.int .i64 6))) <|
 .m 10 9 .done) K100_35
abbrev K100_37:C:=.cond 9 (.v 10) K100_16 K100_36
abbrev K100_38:C:=.seq (.pl <| .e 9 2 <|
 .x 9 (.bin .eql (.v 6) (.c (.int .i64 3))) <|
 .m 10 9 .done) K100_37
abbrev K100_39:C:=.cond 9 (.v 7) K100_14 K100_38
abbrev K100_40:C:=.pl <| .e 9 1 <|
 .x 9 (.bin .eql (.v 6) (.c (.int .i64 2))) <|
 .m 7 9 .done
abbrev K100_41:C:=.cond 9 (.v 7) (.skip) K100_40
abbrev K100_42:C:=.block 0 (.seq (.seq (.pl <| .e 9 1 <|
 .x 9 (.bin .eql (.v 6) (.c (.int .i64 1))) <|
 .m 7 9 .done) K100_41) K100_39)
abbrev K100_43:C:=.seq (.seq (.pl <| .e 9 1 <|
 .a 9 2 <|
 .g 6 9 2 0 .done) K100_42) K100_9
abbrev B_spec_l5Push:C:=.seq (.pl <| .e 9 0 <|
 .o (.pnew 2 (.v 0) []) <|
 .o (.pnew 3 (.c (.agg #[.int .i64 0,.int .i64 0,.slice none 0 0])) []) .done) K100_43
def R_spec_l5Push:FIR:=⟨B_spec_l5Push,9,[(3,some (some 3))]⟩
theorem IR_spec_l5Push:cfun Tryz.prog H_spec_l5Push Tryz.f100=some R_spec_l5Push:=by kernel_rfl
theorem EN_spec_l5Push:ENT Tryz.prog B_spec_l5Push [(3,some (some 3))] 2 9 fn_spec_l5Push:=fun hargs hw=>enter Tryz.func100 rfl IR_spec_l5Push hargs hw
def H_spec_l5Shape:Hint:=⟨[(0,false),(1,false),(2,true),(4,false),(5,false)],[[0,3]]⟩
abbrev K148_1:C:=.seq (.pl <| .e 5 0 <|
 .x 3 (.mv (.c (.bool true))) .done) (.ret)
abbrev K148_2:C:=.pl <| .e 5 2 <|
 .m 5 4 <|
 .x 6 (.bin .add (.v 5) (.c (.int .i64 1))) <|
 .m 4 6 .done
abbrev K148_3:C:=.seq (.pl <| .e 5 0 <|
 .x 3 (.mv (.c (.bool false))) .done) (.ret)
abbrev K148_4:C:=.cond 5 (.v 13) K148_3 (.skip)
abbrev K148_5:Pl:=.x 13 (.un .not (.v 12)) .done
abbrev K148_6:C:=.seq (.block 1 (.seq (.pl <| .e 5 9 <|
 .a 5 2 <|
 .g 6 5 2 2 <|
 .m 7 4 <|
 .x 8 (.ia 3 (.v 6) (.v 7)) <|
 .o (.ld (some 9) (.v 8) (some 3)) <|
 .m 10 1 <|
 .x 11 (.bin .sub (.v 10) (.c (.int .i64 1))) <|
 .c 12 (.call fn_spec_l5Shape [.v 9,.v 11]) K148_5) K148_4)) K148_2
abbrev K148_7:C:=.cond 5 (.v 9) (.skip) (.exit 0)
abbrev K148_8:C:=.seq (.seq (.pl <| .e 5 5 <|
 .m 5 4 <|
 .a 6 2 <|
 .g 7 6 2 2 <|
 .x 8 (.lenV (.v 7)) <|
 .x 9 (.bin .lss (.v 5) (.v 8)) .done) K148_7) K148_6
abbrev K148_9:C:=.block 0 (.loop 5 [0,3] K148_8)
abbrev K148_10:C:=.seq (.seq (.pl <| .e 5 0 <|
 .x 4 (.mv (.c (.int .i64 0))) .done) K148_9) K148_1
abbrev K148_11:C:=.seq (.pl <| .e 5 0 <|
 .x 3 (.mv (.c (.bool false))) .done) (.ret)
abbrev K148_12:C:=.cond 5 (.v 22) K148_11 (.skip)
abbrev K148_13:C:=.seq (.seq (.pl <| .e 5 18 <|
 .a 5 2 <|
 .g 6 5 2 1 <|
 .x 7 (.bin .lss (.v 6) (.c (.int .i64 0))) <|
 .m 8 7 <|
 .n 8 (.als 9 none 2) <|
 .n 8 (.pget (some 10) (some 9) 2 1 none) <|
 .n 8 (.px (some 11) (.bin .geq (.v 10) (.c (.int .i64 3)))) <|
 .x 12 (.pick (.v 8) (.c (.bool true)) (.v 11)) <|
 .m 13 12 <|
 .n 13 (.als 14 none 2) <|
 .n 13 (.pget (some 15) (some 14) 2 0 none) <|
 .n 13 (.px (some 16) (.bin .neq (.v 15) (.c (.int .i64 2)))) <|
 .n 13 (.px (some 17) (.mv (.v 16))) <|
 .y 17 (.als 18 none 2) <|
 .y 17 (.pget (some 19) (some 18) 2 1 none) <|
 .y 17 (.px (some 20) (.bin .neq (.v 19) (.c (.int .i64 0)))) <|
 .n 13 (.px (some 21) (.pick (.v 17) (.v 20) (.c (.bool false)))) <|
 .x 22 (.pick (.v 13) (.c (.bool true)) (.v 21)) .done) K148_12) K148_10
abbrev K148_14:C:=.seq (.pl <| .e 5 0 <|
 .x 3 (.mv (.c (.bool false))) .done) (.ret)
abbrev K148_15:C:=.cond 5 (.v 15) K148_14 (.skip)
abbrev K148_16:Pl:=.n 7 (.px (some 14) (.bin .neq (.v 10) (.v 13))) <|
 .x 15 (.pick (.v 7) (.c (.bool true)) (.v 14)) .done
abbrev K148_17:C:=.seq (.seq (.pl <| .e 5 11 <|
 .m 5 1 <|
 .x 6 (.bin .lss (.v 5) (.c (.int .i64 1))) <|
 .m 7 6 <|
 .n 7 (.als 8 none 2) <|
 .n 7 (.pget (some 9) (some 8) 2 2 none) <|
 .n 7 (.px (some 10) (.lenV (.v 9))) <|
 .n 7 (.als 11 none 2) <|
 .n 7 (.pget (some 12) (some 11) 2 0 none) <|
 .st (.act (some (.v 7,false)) (.ex (some 13) (.call fn_spec_l5Arity [.v 12]))) K148_16) K148_15) K148_13
abbrev B_spec_l5Shape:C:=.seq (.pl <| .e 5 0 <|
 .o (.pnew 2 (.v 0) []) <|
 .x 3 (.mv (.c (.bool false))) .done) K148_17
def R_spec_l5Shape:FIR:=⟨B_spec_l5Shape,5,[(3,none)]⟩
theorem IR_spec_l5Shape:cfun Tryz.prog H_spec_l5Shape Tryz.f148=some R_spec_l5Shape:=by kernel_rfl
theorem EN_spec_l5Shape:ENT Tryz.prog B_spec_l5Shape [(3,none)] 2 5 fn_spec_l5Shape:=fun hargs hw=>enter Tryz.func148 rfl IR_spec_l5Shape hargs hw
def H_spec_l5Subs:Hint:=⟨[(0,false),(1,false),(3,true),(4,false),(5,false)],[[1,3]]⟩
abbrev K97_1:C:=.seq (.pl <| .e 5 1 <|
 .m 5 0 <|
 .m 3 5 .done) (.ret)
abbrev K97_2:Pl:=.m 0 9 .done
abbrev K97_3:Pl:=.o (.psl 8 [.int .i64 0,.int .i64 0,.slice none 0 0] [(0,3,.v 7)]) <|
 .c 9 (.app 40 3 [.int .i64 0,.int .i64 0,.slice none 0 0] (.o (.v 5)) (.p 1 8)) K97_2
abbrev K97_4:C:=.pl <| .e 5 5 <|
 .m 5 0 <|
 .o (.pget (some 6) none 2 0 (some 3)) <|
 .c 7 (.call fn_spec_l5Copy [.v 6]) K97_3
abbrev K97_5:C:=.cond 5 (.v 8) K97_4 (.skip)
abbrev K97_6:Pl:=.x 8 (.bin .lss (.v 7) (.c (.int .i64 0))) .done
abbrev K97_7:C:=.seq (.seq (.pl <| .e 5 4 <|
 .m 5 0 <|
 .o (.pget (some 6) none 2 0 (some 3)) <|
 .c 7 (.call fn_spec_l5Find [.v 5,.v 6]) K97_6) K97_5) K97_1
abbrev K97_8:C:=.pl <| .e 5 2 <|
 .m 5 4 <|
 .x 6 (.bin .add (.v 5) (.c (.int .i64 1))) <|
 .m 4 6 .done
abbrev K97_9:Pl:=.m 0 11 .done
abbrev K97_10:C:=.seq (.block 1 (.pl <| .e 5 7 <|
 .m 5 0 <|
 .a 6 2 <|
 .g 7 6 2 2 <|
 .m 8 4 <|
 .x 9 (.ia 3 (.v 7) (.v 8)) <|
 .o (.ld (some 10) (.v 9) (some 3)) <|
 .c 11 (.call fn_spec_l5Subs [.v 5,.v 10]) K97_9)) K97_8
abbrev K97_11:C:=.cond 5 (.v 9) (.skip) (.exit 0)
abbrev K97_12:C:=.seq (.seq (.pl <| .e 5 5 <|
 .m 5 4 <|
 .a 6 2 <|
 .g 7 6 2 2 <|
 .x 8 (.lenV (.v 7)) <|
 .x 9 (.bin .lss (.v 5) (.v 8)) .done) K97_11) K97_10
abbrev K97_13:C:=.block 0 (.loop 5 [1,3] K97_12)
abbrev K97_14:C:=.seq (.seq (.pl <| .e 5 0 <|
 .x 4 (.mv (.c (.int .i64 0))) .done) K97_13) K97_7
abbrev B_spec_l5Subs:C:=.seq (.pl <| .e 5 0 <|
 .o (.pnew 2 (.v 1) []) <|
 .x 3 (.mv (.c (.slice none 0 0))) .done) K97_14
def R_spec_l5Subs:FIR:=⟨B_spec_l5Subs,5,[(3,none)]⟩
theorem IR_spec_l5Subs:cfun Tryz.prog H_spec_l5Subs Tryz.f97=some R_spec_l5Subs:=by kernel_rfl
theorem EN_spec_l5Subs:ENT Tryz.prog B_spec_l5Subs [(3,none)] 2 5 fn_spec_l5Subs:=fun hargs hw=>enter Tryz.func97 rfl IR_spec_l5Subs hargs hw
def H_spec_l5True:Hint:=⟨[(0,true)],[]⟩
abbrev K133_1:C:=.seq (.pl <| .e 1 1 <|
 .x 1 (.build [.int .i64 0,.int .i64 0,.slice none 0 0] [(0,1,.c (.int .i64 1))]) <|
 .o (.pset none 0 0 3 (.v 1)) .done) (.ret)
abbrev B_spec_l5True:C:=.seq (.pl <| .e 1 0 <|
 .o (.pnew 0 (.c (.agg #[.int .i64 0,.int .i64 0,.slice none 0 0])) []) .done) K133_1
def R_spec_l5True:FIR:=⟨B_spec_l5True,1,[(0,some (some 3))]⟩
theorem IR_spec_l5True:cfun Tryz.prog H_spec_l5True Tryz.f133=some R_spec_l5True:=by kernel_rfl
theorem EN_spec_l5True:ENT Tryz.prog B_spec_l5True [(0,some (some 3))] 0 1 fn_spec_l5True:=fun hargs hw=>enter Tryz.func133 rfl IR_spec_l5True hargs hw
def H_spec_l6Has:Hint:=⟨[(0,false),(1,false),(4,false)],[]⟩
abbrev K101_1:C:=.seq (.pl <| .e 3 6 <|
 .m 3 0 <|
 .m 4 1 <|
 .x 5 (.conv .u64 (.v 4)) <|
 .x 6 (.bin .shr (.v 3) (.v 5)) <|
 .x 7 (.bin .and (.v 6) (.c (.int .i64 1))) <|
 .x 8 (.bin .eql (.v 7) (.c (.int .i64 1))) <|
 .m 2 8 .done) (.ret)
abbrev B_spec_l6Has:C:=.seq (.pl <| .e 3 0 <|
 .x 2 (.mv (.c (.bool false))) .done) K101_1
def R_spec_l6Has:FIR:=⟨B_spec_l6Has,3,[(2,none)]⟩
theorem IR_spec_l6Has:cfun Tryz.prog H_spec_l6Has Tryz.f101=some R_spec_l6Has:=by kernel_rfl
theorem EN_spec_l6Has:ENT Tryz.prog B_spec_l6Has [(2,none)] 2 3 fn_spec_l6Has:=fun hargs hw=>enter Tryz.func101 rfl IR_spec_l6Has hargs hw
def H_spec_l7Basic:Hint:=⟨[(0,false),(1,true),(2,false)],[]⟩
abbrev K98_1:C:=.seq (.pl <| .e 3 18 <|
 .a 3 1 <|
 .g 4 3 1 0 <|
 .x 5 (.bin .eql (.v 4) (.c (.int .i64 2))) <|
 .m 6 5 <|
 .n 6 (.als 7 none 1) <|
 .n 6 (.pget (some 8) (some 7) 1 0 none) <|
 .n 6 (.px (some 9) (.bin .eql (.v 8) (.c (.int .i64 6)))) <|
 .x 10 (.pick (.v 6) (.c (.bool true)) (.v 9)) <|
 .m 11 10 <|
 .n 11 (.als 12 none 1) <|
 .n 11 (.pget (some 13) (some 12) 1 0 none) <|
 .n 11 (.px (some 14) (.bin .eql (.v 13) (.c (.int .i64 7)))) <|
 .x 15 (.pick (.v 11) (.c (.bool true)) (.v 14)) <|
 .m 16 15 <|
 .n 16 (.als 17 none 1) <|
 .n 16 (.pget (some 18) (some 17) 1 0 none) <|
 .n 16 (.px (some 19) (.bin .eql (.v 18) (.c (.int .i64 8)))) <|
 .x 20 (.pick (.v 16) (.c (.bool true)) (.v 19)) <|
 .m 2 20 .done) (.ret)
abbrev B_spec_l7Basic:C:=.seq (.pl <| .e 3 0 <|
 .o (.pnew 1 (.v 0) []) <|
 .x 2 (.mv (.c (.bool false))) .done) K98_1
def R_spec_l7Basic:FIR:=⟨B_spec_l7Basic,3,[(2,none)]⟩
theorem IR_spec_l7Basic:cfun Tryz.prog H_spec_l7Basic Tryz.f98=some R_spec_l7Basic:=by kernel_rfl
theorem EN_spec_l7Basic:ENT Tryz.prog B_spec_l7Basic [(2,none)] 1 3 fn_spec_l7Basic:=fun hargs hw=>enter Tryz.func98 rfl IR_spec_l7Basic hargs hw
end Go.Proofs.YtielhfonnleldaaGreat
