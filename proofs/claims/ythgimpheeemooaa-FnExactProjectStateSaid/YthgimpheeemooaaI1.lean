/-
  The bodies of the functions in the small language, as a program printed them, and that each is what the translation gives.
-/
import Derived.Test.YthgimpheeemooaaRows
import Derived.Test.YthgimpheeemooaaGC
namespace Go.Proofs.Ythgimpheeemooaa
open Go
set_option linter.all false
set_option linter.defProp false
set_option maxRecDepth 1000000

abbrev fn_main_main : Nat := 0
abbrev fn_gosem_cut : Nat := 1
abbrev fn_gosem_cut_init : Nat := 2
abbrev fn_laws_FnExactRelevantVars : Nat := 3
abbrev fn_laws_FnExactLabelGraph : Nat := 4
abbrev fn_laws_FnExactProjectState : Nat := 5
abbrev fn_laws_FnExactSliceSystem : Nat := 6
abbrev fn_laws_FnExactApplyStep : Nat := 7
abbrev fn_laws_FnRelevantVars : Nat := 8
abbrev fn_laws_FnSliceTwice : Nat := 9
abbrev fn_laws_FnApplyStep : Nat := 10
abbrev fn_laws_szSystem : Nat := 11
abbrev fn_laws_szExprS : Nat := 12
abbrev fn_spec_RelevantVars : Nat := 13
abbrev fn_laws_toSystem : Nat := 14
abbrev fn_laws_toExprS : Nat := 15
abbrev fn_impl_RelevantVars : Nat := 16
abbrev fn_laws_eqBoolS : Nat := 17
abbrev fn_laws_eqSystem : Nat := 18
abbrev fn_laws_eqExprS : Nat := 19
abbrev fn_laws_markSystem : Nat := 20
abbrev fn_laws_markExprS : Nat := 21
abbrev fn_laws_markBoolS : Nat := 22
abbrev fn_laws_heldBoolS : Nat := 23
abbrev fn_laws_szGraph : Nat := 24
abbrev fn_spec_LabelGraph : Nat := 25
abbrev fn_laws_toGraph : Nat := 26
abbrev fn_impl_LabelGraph : Nat := 27
abbrev fn_laws_eqIntS : Nat := 28
abbrev fn_laws_eqGraph : Nat := 29
abbrev fn_laws_markGraph : Nat := 30
abbrev fn_laws_markIntS : Nat := 31
abbrev fn_laws_heldIntS : Nat := 32
abbrev fn_laws_szState : Nat := 33
abbrev fn_spec_ProjectState : Nat := 34
abbrev fn_laws_toState : Nat := 35
abbrev fn_impl_ProjectState : Nat := 36
abbrev fn_laws_eqState : Nat := 37
abbrev fn_laws_markState : Nat := 38
abbrev fn_laws_heldState : Nat := 39
abbrev fn_spec_SliceSystem : Nat := 40
abbrev fn_impl_SliceSystem : Nat := 41
abbrev fn_laws_heldSystem : Nat := 42
abbrev fn_spec_ApplyStep : Nat := 43
abbrev fn_laws_toStep : Nat := 44
abbrev fn_impl_ApplyStep : Nat := 45
abbrev fn_spec_DrawRelevantVars : Nat := 46
abbrev fn_laws_wpBools : Nat := 47
abbrev fn_laws_wpOccurs : Nat := 48
abbrev fn_spec_DrawSliceSystem : Nat := 49
abbrev fn_impl_SystemSame : Nat := 50
abbrev fn_impl_SystemVars : Nat := 51
abbrev fn_impl_SystemValid : Nat := 52
abbrev fn_spec_DrawApplyStep : Nat := 53
abbrev fn_impl_StateSame : Nat := 54
abbrev fn_impl_StepProcesses : Nat := 55
abbrev fn_impl_StateValid : Nat := 56
abbrev fn_laws_szIntS : Nat := 57
abbrev fn_laws_szProcessS : Nat := 58
abbrev fn_laws_szExpr : Nat := 59
abbrev fn_spec_SystemValid : Nat := 60
abbrev fn_spec_LabelsValid : Nat := 61
abbrev fn_spec_l1Mark : Nat := 62
abbrev fn_laws_toIntS : Nat := 63
abbrev fn_laws_toProcessS : Nat := 64
abbrev fn_laws_toExpr : Nat := 65
abbrev fn_impl_LabelsValid : Nat := 66
abbrev fn_impl_System_relevant : Nat := 67
abbrev fn_laws_eqProcessS : Nat := 68
abbrev fn_laws_eqExpr : Nat := 69
abbrev fn_laws_markProcessS : Nat := 70
abbrev fn_laws_szStateS : Nat := 71
abbrev fn_laws_szIntSS : Nat := 72
abbrev fn_spec_GraphValid : Nat := 73
abbrev fn_spec_l8Letters : Nat := 74
abbrev fn_laws_toStateS : Nat := 75
abbrev fn_laws_toIntSS : Nat := 76
abbrev fn_impl_GraphValid : Nat := 77
abbrev fn_impl_Graph_label : Nat := 78
abbrev fn_laws_eqStateS : Nat := 79
abbrev fn_laws_eqIntSS : Nat := 80
abbrev fn_laws_markStateS : Nat := 81
abbrev fn_laws_markIntSS : Nat := 82
abbrev fn_spec_StateValid : Nat := 83
abbrev fn_impl_System_has : Nat := 84
abbrev fn_impl_State_copyOf : Nat := 85
abbrev fn_spec_l2Copy : Nat := 86
abbrev fn_impl_System_copyOf : Nat := 87
abbrev fn_laws_heldProcessS : Nat := 88
abbrev fn_spec_EnabledSteps : Nat := 89
abbrev fn_spec_l3Apply : Nat := 90
abbrev fn_slices_Contains_S_impl_Step_impl_Step : Nat := 91
abbrev fn_impl_EnabledSteps : Nat := 92
abbrev fn_impl_System_after : Nat := 93
abbrev fn_spec_l16Open : Nat := 94
abbrev fn_spec_l14Labels : Nat := 95
abbrev fn_spec_l2Mutate : Nat := 96
abbrev fn_spec_l14System : Nat := 97
abbrev fn_impl_ExprVars : Nat := 98
abbrev fn_slices_Equal_S_int_int : Nat := 99
abbrev fn_slices_EqualFunc_S_impl_Process_S_impl_Process_impl_Process_impl_Process : Nat := 100
abbrev fn_impl_SystemSame_1 : Nat := 101
abbrev fn_slices_EqualFunc_S_impl_Edge_S_impl_Edge_impl_Edge_impl_Edge : Nat := 102
abbrev fn_impl_Edge_same : Nat := 103
abbrev fn_impl_Expr_vars : Nat := 104
abbrev fn_impl_valsOk : Nat := 105
abbrev fn_impl_in : Nat := 106
abbrev fn_slices_ContainsFunc_S_impl_Edge_impl_Edge : Nat := 107
abbrev fn_impl_SystemValid_1 : Nat := 108
abbrev fn_impl_EdgeValid : Nat := 109
abbrev fn_spec_DrawStateValid : Nat := 110
abbrev fn_spec_l16Rd_pick : Nat := 111
abbrev fn_spec_l16Rd_num : Nat := 112
abbrev fn_laws_szProcess : Nat := 113
abbrev fn_spec_l2Process : Nat := 114
abbrev fn_spec_l1Vals : Nat := 115
abbrev fn_spec_ExprValid : Nat := 116
abbrev fn_laws_toProcess : Nat := 117
abbrev fn_slices_ContainsFunc_S_impl_Expr_impl_Expr : Nat := 118
abbrev fn_impl_LabelsValid_1 : Nat := 119
abbrev fn_impl_ExprValid : Nat := 120
abbrev fn_laws_eqProcess : Nat := 121
abbrev fn_laws_markEdgeS : Nat := 122
abbrev fn_spec_l4In : Nat := 123
abbrev fn_spec_l8Letter : Nat := 124
abbrev fn_slices_ContainsFunc_S_impl_State_impl_State : Nat := 125
abbrev fn_impl_GraphValid_1 : Nat := 126
abbrev fn_slices_ContainsFunc_S_S_int_S_int : Nat := 127
abbrev fn_impl_GraphValid_2 : Nat := 128
abbrev fn_impl_distinct : Nat := 129
abbrev fn_impl_letter : Nat := 130
abbrev fn_impl_clone_int : Nat := 131
abbrev fn_spec_l1Subst : Nat := 132
abbrev fn_impl_clone_impl_Process : Nat := 133
abbrev fn_impl_clone_impl_Edge : Nat := 134
abbrev fn_impl_Expr_copyOf : Nat := 135
abbrev fn_laws_heldEdgeS : Nat := 136
abbrev fn_spec_l3Steps : Nat := 137
abbrev fn_spec_l3Take : Nat := 138
abbrev fn_slices_Index_S_impl_Step_impl_Step : Nat := 139
abbrev fn_impl_System_enabled : Nat := 140
abbrev fn_impl_State_take : Nat := 141
abbrev fn_spec_l8Labels : Nat := 142
abbrev fn_spec_l1Mutate : Nat := 143
abbrev fn_spec_l1Expr : Nat := 144
abbrev fn_spec_l2System : Nat := 145
abbrev fn_impl_ExprSame : Nat := 146
abbrev fn_slices_ContainsFunc_S_int_int : Nat := 147
abbrev fn_impl_valsOk_1 : Nat := 148
abbrev fn_slices_IndexFunc_S_impl_Edge_impl_Edge : Nat := 149
abbrev fn_spec_l3Mutate : Nat := 150
abbrev fn_spec_l3State : Nat := 151
abbrev fn_laws_szEdgeS : Nat := 152
abbrev fn_spec_EdgeValid : Nat := 153
abbrev fn_spec_l1Shape : Nat := 154
abbrev fn_spec_l1Count : Nat := 155
abbrev fn_laws_toEdgeS : Nat := 156
abbrev fn_slices_IndexFunc_S_impl_Expr_impl_Expr : Nat := 157
abbrev fn_impl_ExprNodes : Nat := 158
abbrev fn_laws_eqEdgeS : Nat := 159
abbrev fn_spec_l1Eval : Nat := 160
abbrev fn_slices_IndexFunc_S_impl_State_impl_State : Nat := 161
abbrev fn_slices_IndexFunc_S_S_int_S_int : Nat := 162
abbrev fn_slices_Contains_S_int_int : Nat := 163
abbrev fn_impl_Expr_eval : Nat := 164
abbrev fn_slices_Clip_S_int_int : Nat := 165
abbrev fn_slices_Clone_S_int_int : Nat := 166
abbrev fn_slices_Clip_S_impl_Process_impl_Process : Nat := 167
abbrev fn_slices_Clone_S_impl_Process_impl_Process : Nat := 168
abbrev fn_slices_Clip_S_impl_Edge_impl_Edge : Nat := 169
abbrev fn_slices_Clone_S_impl_Edge_impl_Edge : Nat := 170
abbrev fn_impl_clone_impl_Expr : Nat := 171
abbrev fn_laws_heldExprS : Nat := 172
abbrev fn_spec_l3Ready : Nat := 173
abbrev fn_spec_l3Partners : Nat := 174
abbrev fn_impl_System_ready : Nat := 175
abbrev fn_slices_Clip_S_impl_Step_impl_Step : Nat := 176
abbrev fn_spec_l2Guard : Nat := 177
abbrev fn_spec_l1Random : Nat := 178
abbrev fn_spec_l2DrawEdge : Nat := 179
abbrev fn_slices_EqualFunc_S_impl_Expr_S_impl_Expr_impl_Expr_impl_Expr : Nat := 180
abbrev fn_slices_IndexFunc_S_int_int : Nat := 181
abbrev fn_spec_InitialState : Nat := 182
abbrev fn_laws_szEdge : Nat := 183
abbrev fn_spec_l2None : Nat := 184
abbrev fn_spec_l1Arity : Nat := 185
abbrev fn_laws_toEdge : Nat := 186
abbrev fn_impl_Expr_walk : Nat := 187
abbrev fn_laws_eqEdge : Nat := 188
abbrev fn_spec_l1Bool : Nat := 189
abbrev fn_slices_Index_S_int_int : Nat := 190
abbrev fn_impl_truth : Nat := 191
abbrev fn_slices_Clip_S_impl_Expr_impl_Expr : Nat := 192
abbrev fn_slices_Clone_S_impl_Expr_impl_Expr : Nat := 193
abbrev fn_impl_Expr_walk_1 : Nat := 194
abbrev fn_runtime_boundsError_Error : Nat := 195
abbrev fn_runtime_boundsError_RuntimeError : Nat := 196
abbrev fn_runtime_errorString_Error : Nat := 197
abbrev fn_runtime_errorString_RuntimeError : Nat := 198
abbrev fn_runtime_plainError_Error : Nat := 199
abbrev fn_runtime_plainError_RuntimeError : Nat := 200
abbrev fn_runtime_errorAddressString_Error : Nat := 201
abbrev fn_runtime_errorAddressString_RuntimeError : Nat := 202
abbrev fn_runtime_TypeAssertionError_Error : Nat := 203
abbrev fn_runtime_TypeAssertionError_RuntimeError : Nat := 204
abbrev fn_runtime_PanicNilError_Error : Nat := 205
abbrev fn_runtime_PanicNilError_RuntimeError : Nat := 206
abbrev fn_internal_abi_Type_Align : Nat := 207
abbrev fn_internal_runtime_maps_unhashableTypeError_Error : Nat := 208
abbrev fn_internal_runtime_maps_unhashableTypeError_RuntimeError : Nat := 209
abbrev fn_impl_Graph_every : Nat := 210
abbrev fn_impl_Expr_text : Nat := 211
abbrev fn_impl_Process_reach : Nat := 212
abbrev fn_spec_l16Rd_word : Nat := 213
abbrev fn_internal_abi_Kind_String : Nat := 214
def H_impl_EdgeValid : Hint := ⟨[(0, false), (1, false), (2, true), (4, false)], []⟩
def K109_1 : Pl := .st (.act none (.px (some 55) (.pick (.v 51) (.v 54) (.c (.bool false))))) <|
    .st (.act none (.px (some 3) (.mv (.v 55)))) .done
@[simp] def W109_1 := @Pl.wpe _ _ K109_1.eq_1
def K109_2 : Pl := .st (.act (some (.v 39, false)) (.px (some 48) (.pick (.v 43) (.v 47) (.c (.bool false))))) <|
    .st (.act (some (.v 30, true)) (.px (some 49) (.pick (.v 39) (.c (.bool true)) (.v 48)))) <|
    .st (.act none (.px (some 50) (.pick (.v 30) (.v 49) (.c (.bool false))))) <|
    .st (.act none (.px (some 51) (.mv (.v 50)))) <|
    .st (.act (some (.v 51, true)) (.als 52 none 2)) <|
    .st (.act (some (.v 51, true)) (.pget (some 53) (some 52) 2 9 none)) <|
    .st (.act (some (.v 51, true)) (.ex (some 54) (.call fn_impl_in [.v 53, .c (.int .i64 (-2)), .c (.int .i64 2)]))) K109_1
@[simp] def W109_2 := @Pl.wpe _ _ K109_2.eq_1
def K109_3 : Pl := .st (.act (some (.v 30, true)) (.px (some 38) (.pick (.v 34) (.v 37) (.c (.bool false))))) <|
    .st (.act (some (.v 30, true)) (.px (some 39) (.mv (.v 38)))) <|
    .st (.act (some (.v 39, false)) (.als 40 none 2)) <|
    .st (.act (some (.v 39, false)) (.pget (some 41) (some 40) 2 5 none)) <|
    .st (.act (some (.v 39, false)) (.px (some 42) (.bin .lss (.v 41) (.c (.int .i64 0))))) <|
    .st (.act (some (.v 39, false)) (.px (some 43) (.mv (.v 42)))) <|
    .st (.act (some (.v 43, true)) (.als 44 none 2)) <|
    .st (.act (some (.v 43, true)) (.pget (some 45) (some 44) 2 6 (some 3))) <|
    .st (.act (some (.v 43, true)) (.px (some 46) (.build [.int .i64 0, .int .i64 0, .slice none 0 0] []))) <|
    .st (.act (some (.v 43, true)) (.ex (some 47) (.call fn_impl_ExprSame [.v 45, .v 46]))) K109_2
@[simp] def W109_3 := @Pl.wpe _ _ K109_3.eq_1
def K109_4 : Pl := .st (.act none (.px (some 29) (.pick (.v 25) (.v 28) (.c (.bool false))))) <|
    .st (.act none (.px (some 30) (.mv (.v 29)))) <|
    .st (.act (some (.v 30, true)) (.als 31 none 2)) <|
    .st (.act (some (.v 30, true)) (.pget (some 32) (some 31) 2 5 none)) <|
    .st (.act (some (.v 30, true)) (.px (some 33) (.bin .geq (.v 32) (.c (.int .i64 0))))) <|
    .st (.act (some (.v 30, true)) (.px (some 34) (.mv (.v 33)))) <|
    .st (.act (some (.v 34, true)) (.als 35 none 2)) <|
    .st (.act (some (.v 34, true)) (.pget (some 36) (some 35) 2 6 (some 3))) <|
    .st (.act (some (.v 34, true)) (.ex (some 37) (.call fn_impl_ExprValid [.v 36]))) K109_3
@[simp] def W109_4 := @Pl.wpe _ _ K109_4.eq_1
def K109_5 : Pl := .st (.act none (.px (some 24) (.pick (.v 20) (.v 23) (.c (.bool false))))) <|
    .st (.act none (.px (some 25) (.mv (.v 24)))) <|
    .st (.act (some (.v 25, true)) (.als 26 none 2)) <|
    .st (.act (some (.v 25, true)) (.pget (some 27) (some 26) 2 5 none)) <|
    .st (.act (some (.v 25, true)) (.ex (some 28) (.call fn_impl_in [.v 27, .c (.int .i64 (-1)), .c (.int .i64 2)]))) K109_4
@[simp] def W109_5 := @Pl.wpe _ _ K109_5.eq_1
def K109_6 : Pl := .st (.act none (.px (some 19) (.pick (.v 13) (.v 18) (.c (.bool false))))) <|
    .st (.act none (.px (some 20) (.mv (.v 19)))) <|
    .st (.act (some (.v 20, true)) (.als 21 none 2)) <|
    .st (.act (some (.v 20, true)) (.pget (some 22) (some 21) 2 2 (some 3))) <|
    .st (.act (some (.v 20, true)) (.ex (some 23) (.call fn_impl_ExprValid [.v 22]))) K109_5
@[simp] def W109_6 := @Pl.wpe _ _ K109_6.eq_1
def K109_7 : Pl := .st (.act none (.px (some 12) (.pick (.v 6) (.v 11) (.c (.bool false))))) <|
    .st (.act none (.px (some 13) (.mv (.v 12)))) <|
    .st (.act (some (.v 13, true)) (.als 14 none 2)) <|
    .st (.act (some (.v 13, true)) (.pget (some 15) (some 14) 2 1 none)) <|
    .st (.act (some (.v 13, true)) (.px (some 16) (.mv (.v 1)))) <|
    .st (.act (some (.v 13, true)) (.px (some 17) (.bin .sub (.v 16) (.c (.int .i64 1))))) <|
    .st (.act (some (.v 13, true)) (.ex (some 18) (.call fn_impl_in [.v 15, .c (.int .i64 0), .v 17]))) K109_6
@[simp] def W109_7 := @Pl.wpe _ _ K109_7.eq_1
def K109_8 : Pl := .st (.act none (.px (some 6) (.mv (.v 5)))) <|
    .st (.act (some (.v 6, true)) (.als 7 none 2)) <|
    .st (.act (some (.v 6, true)) (.pget (some 8) (some 7) 2 0 none)) <|
    .st (.act (some (.v 6, true)) (.px (some 9) (.mv (.v 1)))) <|
    .st (.act (some (.v 6, true)) (.px (some 10) (.bin .sub (.v 9) (.c (.int .i64 1))))) <|
    .st (.act (some (.v 6, true)) (.ex (some 11) (.call fn_impl_in [.v 8, .c (.int .i64 0), .v 10]))) K109_7
@[simp] def W109_8 := @Pl.wpe _ _ K109_8.eq_1
def K109_9 : C := .seq (.pl <| .st (.ext 4 52) <|
    .st (.act none (.px (some 4) (.mv (.v 1)))) <|
    .st (.act none (.ex (some 5) (.call fn_impl_in [.v 4, .c (.int .i64 1), .c (.int .i64 4)]))) K109_8) (.ret)
@[simp] def W109_9 := @C.wpe _ _ K109_9.eq_1
def B_impl_EdgeValid : C := .seq (.pl <| .st (.ext 4 0) <|
    .st (.act none (.pnew 2 (.v 0) [])) <|
    .st (.act none (.px (some 3) (.mv (.c (.bool false))))) .done) K109_9
@[simp] def WB_impl_EdgeValid := @C.wpe _ _ B_impl_EdgeValid.eq_1
def R_impl_EdgeValid : FIR := ⟨B_impl_EdgeValid, 4, [(3, none)]⟩
theorem IR_impl_EdgeValid : cfun Try.prog H_impl_EdgeValid Try.f109 = some R_impl_EdgeValid := by kernel_rfl
theorem EN_impl_EdgeValid {args : List Value} {h : Heap} {k : Value → Heap → Prop} (hargs : args.length = 2) (hw : B_impl_EdgeValid.wp Try.prog (retQ [(3, none)] k) (env0 args 4) h) : CallE Try.prog fn_impl_EdgeValid args h k := enter Try.func109 rfl IR_impl_EdgeValid hargs hw

def H_impl_ExprNodes : Hint := ⟨[(0, false), (1, true), (2, false), (3, false)], []⟩
def K158_1 : C := .seq (.pl <| .st (.ext 4 1) <|
    .st (.act none (.ld (some 4) (.v 3) none)) <|
    .st (.act none (.px (some 2) (.mv (.v 4)))) .done) (.ret)
@[simp] def W158_1 := @C.wpe _ _ K158_1.eq_1
def K158_2 : C := .seq (.pl <| .st (.ext 4 0) <|
    .st (.act none (.px (some 2) (.mv (.c (.int .i64 0))))) .done) (.ret)
@[simp] def W158_2 := @C.wpe _ _ K158_2.eq_1
def K158_3 : C := .cond 4 (.v 6) K158_2 (.skip)
@[simp] def W158_3 := @C.wpe _ _ K158_3.eq_1
def K158_4 : Pl := .st (.act none (.px (some 6) (.un .not (.v 5)))) .done
@[simp] def W158_4 := @Pl.wpe _ _ K158_4.eq_1
def K158_5 : C := .seq (.seq (.pl <| .st (.ext 4 3) <|
    .st (.act none (.pget (some 4) none 1 0 (some 3))) <|
    .st (.act none (.ex (some 5) (.call fn_impl_Expr_walk [.v 4, .c (.int .i64 1), .v 3]))) K158_4) K158_3) K158_1
@[simp] def W158_5 := @C.wpe _ _ K158_5.eq_1
def K158_6 : Pl := .st (.act none (.ex none (.store 1 (.v 3) (.c (.int .i64 0))))) .done
@[simp] def W158_6 := @Pl.wpe _ _ K158_6.eq_1
def K158_7 : C := .seq (.pl <| .st (.ext 4 0) <|
    .st (.act none (.ex (some 3) (.alloc (.c (.int .i64 0))))) K158_6) K158_5
@[simp] def W158_7 := @C.wpe _ _ K158_7.eq_1
def B_impl_ExprNodes : C := .seq (.pl <| .st (.ext 4 0) <|
    .st (.act none (.pnew 1 (.v 0) [])) <|
    .st (.act none (.px (some 2) (.mv (.c (.int .i64 0))))) .done) K158_7
@[simp] def WB_impl_ExprNodes := @C.wpe _ _ B_impl_ExprNodes.eq_1
def R_impl_ExprNodes : FIR := ⟨B_impl_ExprNodes, 4, [(2, none)]⟩
theorem IR_impl_ExprNodes : cfun Try.prog H_impl_ExprNodes Try.f158 = some R_impl_ExprNodes := by kernel_rfl
theorem EN_impl_ExprNodes {args : List Value} {h : Heap} {k : Value → Heap → Prop} (hargs : args.length = 1) (hw : B_impl_ExprNodes.wp Try.prog (retQ [(2, none)] k) (env0 args 4) h) : CallE Try.prog fn_impl_ExprNodes args h k := enter Try.func158 rfl IR_impl_ExprNodes hargs hw

def H_impl_ExprSame : Hint := ⟨[(0, false), (1, false), (2, true), (3, true), (4, false)], []⟩
def K146_1 : Pl := .st (.act none (.px (some 23) (.pick (.v 17) (.v 22) (.c (.bool false))))) <|
    .st (.act none (.px (some 4) (.mv (.v 23)))) .done
@[simp] def W146_1 := @Pl.wpe _ _ K146_1.eq_1
def K146_2 : C := .seq (.pl <| .st (.ext 5 19) <|
    .st (.act none (.als 5 none 2)) <|
    .st (.act none (.pget (some 6) (some 5) 2 0 none)) <|
    .st (.act none (.als 7 none 3)) <|
    .st (.act none (.pget (some 8) (some 7) 3 0 none)) <|
    .st (.act none (.px (some 9) (.bin .eql (.v 6) (.v 8)))) <|
    .st (.act none (.px (some 10) (.mv (.v 9)))) <|
    .st (.act (some (.v 10, true)) (.als 11 none 2)) <|
    .st (.act (some (.v 10, true)) (.pget (some 12) (some 11) 2 1 none)) <|
    .st (.act (some (.v 10, true)) (.als 13 none 3)) <|
    .st (.act (some (.v 10, true)) (.pget (some 14) (some 13) 3 1 none)) <|
    .st (.act (some (.v 10, true)) (.px (some 15) (.bin .eql (.v 12) (.v 14)))) <|
    .st (.act none (.px (some 16) (.pick (.v 10) (.v 15) (.c (.bool false))))) <|
    .st (.act none (.px (some 17) (.mv (.v 16)))) <|
    .st (.act (some (.v 17, true)) (.als 18 none 2)) <|
    .st (.act (some (.v 17, true)) (.pget (some 19) (some 18) 2 2 none)) <|
    .st (.act (some (.v 17, true)) (.als 20 none 3)) <|
    .st (.act (some (.v 17, true)) (.pget (some 21) (some 20) 3 2 none)) <|
    .st (.act (some (.v 17, true)) (.ex (some 22) (.call fn_slices_EqualFunc_S_impl_Expr_S_impl_Expr_impl_Expr_impl_Expr [.v 19, .v 21, .c (.func (.func 146) #[] #[])]))) K146_1) (.ret)
@[simp] def W146_2 := @C.wpe _ _ K146_2.eq_1
def B_impl_ExprSame : C := .seq (.pl <| .st (.ext 5 0) <|
    .st (.act none (.pnew 2 (.v 0) [])) <|
    .st (.act none (.pnew 3 (.v 1) [])) <|
    .st (.act none (.px (some 4) (.mv (.c (.bool false))))) .done) K146_2
@[simp] def WB_impl_ExprSame := @C.wpe _ _ B_impl_ExprSame.eq_1
def R_impl_ExprSame : FIR := ⟨B_impl_ExprSame, 5, [(4, none)]⟩
theorem IR_impl_ExprSame : cfun Try.prog H_impl_ExprSame Try.f146 = some R_impl_ExprSame := by kernel_rfl
theorem EN_impl_ExprSame {args : List Value} {h : Heap} {k : Value → Heap → Prop} (hargs : args.length = 2) (hw : B_impl_ExprSame.wp Try.prog (retQ [(4, none)] k) (env0 args 5) h) : CallE Try.prog fn_impl_ExprSame args h k := enter Try.func146 rfl IR_impl_ExprSame hargs hw

def H_impl_ExprValid : Hint := ⟨[(0, false), (1, true), (2, false)], []⟩
def K120_1 : Pl := .st (.act none (.px (some 5) (.bin .gtr (.v 4) (.c (.int .i64 0))))) <|
    .st (.act none (.px (some 2) (.mv (.v 5)))) .done
@[simp] def W120_1 := @Pl.wpe _ _ K120_1.eq_1
def K120_2 : C := .seq (.pl <| .st (.ext 3 3) <|
    .st (.act none (.pget (some 3) none 1 0 (some 3))) <|
    .st (.act none (.ex (some 4) (.call fn_impl_ExprNodes [.v 3]))) K120_1) (.ret)
@[simp] def W120_2 := @C.wpe _ _ K120_2.eq_1
def B_impl_ExprValid : C := .seq (.pl <| .st (.ext 3 0) <|
    .st (.act none (.pnew 1 (.v 0) [])) <|
    .st (.act none (.px (some 2) (.mv (.c (.bool false))))) .done) K120_2
@[simp] def WB_impl_ExprValid := @C.wpe _ _ B_impl_ExprValid.eq_1
def R_impl_ExprValid : FIR := ⟨B_impl_ExprValid, 3, [(2, none)]⟩
theorem IR_impl_ExprValid : cfun Try.prog H_impl_ExprValid Try.f120 = some R_impl_ExprValid := by kernel_rfl
theorem EN_impl_ExprValid {args : List Value} {h : Heap} {k : Value → Heap → Prop} (hargs : args.length = 1) (hw : B_impl_ExprValid.wp Try.prog (retQ [(2, none)] k) (env0 args 3) h) : CallE Try.prog fn_impl_ExprValid args h k := enter Try.func120 rfl IR_impl_ExprValid hargs hw

def H_impl_Expr_vars : Hint := ⟨[(0, false), (1, false), (2, true), (5, true), (14, false), (15, false), (16, false)], [[0, 2, 3]]⟩
def K104_1 : C := .pl <| .st (.ext 7 1) <|
    .st (.act none (.px (some 7) (.bin .add (.v 6) (.c (.int .i64 1))))) <|
    .st (.act none (.px (some 6) (.mv (.v 7)))) .done
@[simp] def W104_1 := @C.wpe _ _ K104_1.eq_1
def K104_2 : C := .pl <| .st (.ext 7 3) <|
    .st (.act none (.pget (some 7) none 3 0 (some 3))) <|
    .st (.act none (.px (some 8) (.mv (.v 1)))) <|
    .st (.act none (.ex (some 9) (.call fn_impl_Expr_vars [.v 7, .v 8]))) .done
@[simp] def W104_2 := @C.wpe _ _ K104_2.eq_1
def K104_3 : C := .seq (.block 1 (.seq (.pl <| .st (.ext 7 2) <|
    .st (.act none (.px (some 7) (.ia 3 (.v 4) (.v 6)))) <|
    .st (.act none (.ld (some 8) (.v 7) (some 3))) <|
    .st (.act none (.pnew 3 (.c (.agg #[.int .i64 0, .int .i64 0, .slice none 0 0])) [])) <|
    .st (.act none (.pset none 3 0 3 (.v 8))) .done) K104_2)) K104_1
@[simp] def W104_3 := @C.wpe _ _ K104_3.eq_1
def K104_4 : C := .seq (.cond 7 (.v 7) (.skip) (.exit 0)) K104_3
@[simp] def W104_4 := @C.wpe _ _ K104_4.eq_1
def K104_5 : C := .seq (.pl <| .st (.ext 7 1) <|
    .st (.act none (.px (some 7) (.bin .lss (.v 6) (.v 5)))) .done) K104_4
@[simp] def W104_5 := @C.wpe _ _ K104_5.eq_1
def K104_6 : C := .block 0 (.loop 7 [0, 2, 3] K104_5)
@[simp] def W104_6 := @C.wpe _ _ K104_6.eq_1
def K104_7 : C := .seq (.pl <| .st (.ext 7 1) <|
    .st (.act none (.als 7 none 2)) <|
    .st (.act none (.pget (some 4) (some 7) 2 2 none)) <|
    .st (.act none (.px (some 5) (.lenV (.v 4)))) <|
    .st (.act none (.px (some 6) (.mv (.c (.int .i64 0))))) .done) K104_6
@[simp] def W104_7 := @C.wpe _ _ K104_7.eq_1
def K104_8 : C := .pl <| .st (.ext 7 4) <|
    .st (.act none (.px (some 7) (.mv (.v 1)))) <|
    .st (.act none (.als 8 none 2)) <|
    .st (.act none (.pget (some 9) (some 8) 2 1 none)) <|
    .st (.act none (.px (some 10) (.ia 1 (.v 7) (.v 9)))) <|
    .st (.act none (.ex none (.store 1 (.v 10) (.c (.bool true))))) .done
@[simp] def W104_8 := @C.wpe _ _ K104_8.eq_1
def K104_9 : C := .cond 7 (.v 9) K104_8 (.skip)
@[simp] def W104_9 := @C.wpe _ _ K104_9.eq_1
def K104_10 : C := .seq (.seq (.pl <| .st (.ext 7 3) <|
    .st (.act none (.als 7 none 2)) <|
    .st (.act none (.pget (some 8) (some 7) 2 0 none)) <|
    .st (.act none (.px (some 9) (.bin .eql (.v 8) (.c (.int .i64 2))))) .done) K104_9) K104_7
@[simp] def W104_10 := @C.wpe _ _ K104_10.eq_1
def B_impl_Expr_vars : C := .seq (.pl <| .st (.ext 7 0) <|
    .st (.act none (.pnew 2 (.v 0) [])) .done) K104_10
@[simp] def WB_impl_Expr_vars := @C.wpe _ _ B_impl_Expr_vars.eq_1
def R_impl_Expr_vars : FIR := ⟨B_impl_Expr_vars, 7, []⟩
theorem IR_impl_Expr_vars : cfun Try.prog H_impl_Expr_vars Try.f104 = some R_impl_Expr_vars := by kernel_rfl
theorem EN_impl_Expr_vars {args : List Value} {h : Heap} {k : Value → Heap → Prop} (hargs : args.length = 2) (hw : B_impl_Expr_vars.wp Try.prog (retQ [] k) (env0 args 7) h) : CallE Try.prog fn_impl_Expr_vars args h k := enter Try.func104 rfl IR_impl_Expr_vars hargs hw

def H_impl_Expr_walk : Hint := ⟨[(0, false), (1, false), (2, false), (3, true), (4, false), (5, false), (6, false), (7, false), (8, false), (15, false)], []⟩
def K187_1 : Pl := .st (.act none (.px (some 14) (.un .not (.v 13)))) <|
    .st (.act none (.px (some 6) (.mv (.v 14)))) .done
@[simp] def W187_1 := @Pl.wpe _ _ K187_1.eq_1
def K187_2 : C := .seq (.pl <| .st (.ext 10 5) <|
    .st (.act none (.als 10 none 3)) <|
    .st (.act none (.pget (some 11) (some 10) 3 2 none)) <|
    .st (.act none (.px (some 12) (.mkf (.func fn_impl_Expr_walk_1) [] [.v 4, .v 5]))) <|
    .st (.act none (.ex (some 13) (.call fn_slices_ContainsFunc_S_impl_Expr_impl_Expr [.v 11, .v 12]))) K187_1) (.ret)
@[simp] def W187_2 := @C.wpe _ _ K187_2.eq_1
def K187_3 : C := .seq (.pl <| .st (.ext 10 0) <|
    .st (.act none (.px (some 6) (.mv (.c (.bool false))))) .done) (.ret)
@[simp] def W187_3 := @C.wpe _ _ K187_3.eq_1
def K187_4 : C := .cond 10 (.v 37) K187_3 (.skip)
@[simp] def W187_4 := @C.wpe _ _ K187_4.eq_1
def K187_5 : Pl := .st (.act (some (.v 24, false)) (.px (some 29) (.un .not (.v 28)))) <|
    .st (.act none (.px (some 30) (.pick (.v 24) (.c (.bool true)) (.v 29)))) <|
    .st (.act none (.px (some 31) (.mv (.v 30)))) <|
    .st (.act (some (.v 31, false)) (.als 32 none 3)) <|
    .st (.act (some (.v 31, false)) (.pget (some 33) (some 32) 3 2 none)) <|
    .st (.act (some (.v 31, false)) (.px (some 34) (.lenV (.v 33)))) <|
    .st (.act (some (.v 31, false)) (.px (some 35) (.mv (.v 7)))) <|
    .st (.act (some (.v 31, false)) (.px (some 36) (.bin .neq (.v 34) (.v 35)))) <|
    .st (.act none (.px (some 37) (.pick (.v 31) (.c (.bool true)) (.v 36)))) .done
@[simp] def W187_5 := @Pl.wpe _ _ K187_5.eq_1
def K187_6 : Pl := .st (.act (some (.v 18, false)) (.px (some 22) (.un .not (.v 21)))) <|
    .st (.act none (.px (some 23) (.pick (.v 18) (.c (.bool true)) (.v 22)))) <|
    .st (.act none (.px (some 24) (.mv (.v 23)))) <|
    .st (.act (some (.v 24, false)) (.als 25 none 3)) <|
    .st (.act (some (.v 24, false)) (.pget (some 26) (some 25) 3 1 none)) <|
    .st (.act (some (.v 24, false)) (.px (some 27) (.mv (.v 8)))) <|
    .st (.act (some (.v 24, false)) (.ex (some 28) (.call fn_impl_in [.v 26, .c (.int .i64 0), .v 27]))) K187_5
@[simp] def W187_6 := @Pl.wpe _ _ K187_6.eq_1
def K187_7 : C := .seq (.seq (.pl <| .st (.ext 10 28) <|
    .st (.act none (.ld (some 10) (.v 4) none)) <|
    .st (.act none (.px (some 11) (.bin .gtr (.v 10) (.c (.int .i64 6))))) <|
    .st (.act none (.px (some 12) (.mv (.v 11)))) <|
    .st (.act (some (.v 12, false)) (.ld (some 13) (.v 5) none)) <|
    .st (.act (some (.v 12, false)) (.px (some 14) (.nilc (.v 13)))) <|
    .st (.act (some (.v 12, false)) (.ld (some 15) (.v 14) none)) <|
    .st (.act (some (.v 12, false)) (.px (some 16) (.bin .gtr (.v 15) (.c (.int .i64 15))))) <|
    .st (.act none (.px (some 17) (.pick (.v 12) (.c (.bool true)) (.v 16)))) <|
    .st (.act none (.px (some 18) (.mv (.v 17)))) <|
    .st (.act (some (.v 18, false)) (.als 19 none 3)) <|
    .st (.act (some (.v 18, false)) (.pget (some 20) (some 19) 3 0 none)) <|
    .st (.act (some (.v 18, false)) (.ex (some 21) (.call fn_impl_in [.v 20, .c (.int .i64 1), .c (.int .i64 9)]))) K187_6) K187_4) K187_2
@[simp] def W187_7 := @C.wpe _ _ K187_7.eq_1
def K187_8 : C := .pl <| .st (.ext 10 0) <|
    .st (.act none (.px (some 7) (.mv (.c (.int .i64 0))))) <|
    .st (.act none (.px (some 8) (.mv (.c (.int .i64 3))))) .done
@[simp] def W187_8 := @C.wpe _ _ K187_8.eq_1
def K187_9 : C := .pl <| .st (.ext 10 0) <|
    .st (.act none (.px (some 7) (.mv (.c (.int .i64 0))))) <|
    .st (.act none (.px (some 8) (.mv (.c (.int .i64 2))))) .done
@[simp] def W187_9 := @C.wpe _ _ K187_9.eq_1
def K187_10 : C := .pl <| .st (.ext 10 0) <|
    .st (.act none (.px (some 7) (.mv (.c (.int .i64 1))))) .done
@[simp] def W187_10 := @C.wpe _ _ K187_10.eq_1
def K187_11 : C := .cond 10 (.v 11) K187_10 (.skip)
@[simp] def W187_11 := @C.wpe _ _ K187_11.eq_1
def K187_12 : C := .seq (.pl <| .st (.ext 10 2) <|
    .st (.act none (.px (some 10) (.bin .eql (.v 9) (.c (.int .i64 3))))) <|
    .st (.act none (.px (some 11) (.mv (.v 10)))) .done) K187_11
@[simp] def W187_12 := @C.wpe _ _ K187_12.eq_1
def K187_13 : C := .cond 10 (.v 11) K187_9 K187_12
@[simp] def W187_13 := @C.wpe _ _ K187_13.eq_1
def K187_14 : C := .seq (.pl <| .st (.ext 10 2) <|
    .st (.act none (.px (some 10) (.bin .eql (.v 9) (.c (.int .i64 2))))) <|
    .st (.act none (.px (some 11) (.mv (.v 10)))) .done) K187_13
@[simp] def W187_14 := @C.wpe _ _ K187_14.eq_1
def K187_15 : C := .cond 10 (.v 11) K187_8 K187_14
@[simp] def W187_15 := @C.wpe _ _ K187_15.eq_1
def K187_16 : C := .block 0 (.seq (.pl <| .st (.ext 10 2) <|
    .st (.act none (.px (some 10) (.bin .eql (.v 9) (.c (.int .i64 1))))) <|
    .st (.act none (.px (some 11) (.mv (.v 10)))) .done) K187_15)
@[simp] def W187_16 := @C.wpe _ _ K187_16.eq_1
def K187_17 : C := .seq (.seq (.pl <| .st (.ext 10 1) <|
    .st (.act none (.als 10 none 3)) <|
    .st (.act none (.pget (some 9) (some 10) 3 0 none)) .done) K187_16) K187_7
@[simp] def W187_17 := @C.wpe _ _ K187_17.eq_1
def K187_18 : C := .seq (.pl <| .st (.ext 10 0) <|
    .st (.act none (.px (some 7) (.mv (.c (.int .i64 2))))) <|
    .st (.act none (.px (some 8) (.mv (.c (.int .i64 0))))) .done) K187_17
@[simp] def W187_18 := @C.wpe _ _ K187_18.eq_1
def K187_19 : C := .seq (.pl <| .st (.ext 10 5) <|
    .st (.act none (.ld (some 10) (.v 5) none)) <|
    .st (.act none (.px (some 11) (.nilc (.v 10)))) <|
    .st (.act none (.ld (some 12) (.v 11) none)) <|
    .st (.act none (.px (some 13) (.bin .add (.v 12) (.c (.int .i64 1))))) <|
    .st (.act none (.px (some 14) (.nilc (.v 10)))) <|
    .st (.act none (.ex none (.store 1 (.v 14) (.v 13)))) .done) K187_18
@[simp] def W187_19 := @C.wpe _ _ K187_19.eq_1
def K187_20 : Pl := .st (.act none (.px (some 6) (.mv (.c (.bool false))))) .done
@[simp] def W187_20 := @Pl.wpe _ _ K187_20.eq_1
def K187_21 : Pl := .st (.act none (.ex (some 5) (.alloc (.v 2)))) K187_20
@[simp] def W187_21 := @Pl.wpe _ _ K187_21.eq_1
def B_impl_Expr_walk : C := .seq (.pl <| .st (.ext 10 0) <|
    .st (.act none (.pnew 3 (.v 0) [])) <|
    .st (.act none (.ex (some 4) (.alloc (.v 1)))) K187_21) K187_19
@[simp] def WB_impl_Expr_walk := @C.wpe _ _ B_impl_Expr_walk.eq_1
def R_impl_Expr_walk : FIR := ⟨B_impl_Expr_walk, 10, [(6, none)]⟩
theorem IR_impl_Expr_walk : cfun Try.prog H_impl_Expr_walk Try.f187 = some R_impl_Expr_walk := by kernel_rfl
theorem EN_impl_Expr_walk {args : List Value} {h : Heap} {k : Value → Heap → Prop} (hargs : args.length = 3) (hw : B_impl_Expr_walk.wp Try.prog (retQ [(6, none)] k) (env0 args 10) h) : CallE Try.prog fn_impl_Expr_walk args h k := enter Try.func187 rfl IR_impl_Expr_walk hargs hw

def H_impl_Expr_walk_1 : Hint := ⟨[(0, false), (1, false), (2, false), (3, true), (4, false)], []⟩
def K194_1 : Pl := .st (.act none (.px (some 10) (.un .not (.v 9)))) <|
    .st (.act none (.px (some 4) (.mv (.v 10)))) .done
@[simp] def W194_1 := @Pl.wpe _ _ K194_1.eq_1
def K194_2 : C := .seq (.pl <| .st (.ext 5 6) <|
    .st (.act none (.pget (some 5) none 3 0 (some 3))) <|
    .st (.act none (.ld (some 6) (.v 1) none)) <|
    .st (.act none (.px (some 7) (.bin .add (.v 6) (.c (.int .i64 1))))) <|
    .st (.act none (.ld (some 8) (.v 2) none)) <|
    .st (.act none (.ex (some 9) (.call fn_impl_Expr_walk [.v 5, .v 7, .v 8]))) K194_1) (.ret)
@[simp] def W194_2 := @C.wpe _ _ K194_2.eq_1
def B_impl_Expr_walk_1 : C := .seq (.pl <| .st (.ext 5 0) <|
    .st (.act none (.pnew 3 (.v 0) [])) <|
    .st (.act none (.px (some 4) (.mv (.c (.bool false))))) .done) K194_2
@[simp] def WB_impl_Expr_walk_1 := @C.wpe _ _ B_impl_Expr_walk_1.eq_1
def R_impl_Expr_walk_1 : FIR := ⟨B_impl_Expr_walk_1, 5, [(4, none)]⟩
theorem IR_impl_Expr_walk_1 : cfun Try.prog H_impl_Expr_walk_1 Try.f194 = some R_impl_Expr_walk_1 := by kernel_rfl
theorem EN_impl_Expr_walk_1 {args : List Value} {h : Heap} {k : Value → Heap → Prop} (hargs : args.length = 3) (hw : B_impl_Expr_walk_1.wp Try.prog (retQ [(4, none)] k) (env0 args 5) h) : CallE Try.prog fn_impl_Expr_walk_1 args h k := enter Try.func194 rfl IR_impl_Expr_walk_1 hargs hw

def H_impl_LabelsValid : Hint := ⟨[(0, false), (2, false)], []⟩
def K66_1 : Pl := .st (.act (some (.v 5, true)) (.px (some 8) (.un .not (.v 7)))) <|
    .st (.act none (.px (some 9) (.pick (.v 5) (.v 8) (.c (.bool false))))) <|
    .st (.act none (.px (some 1) (.mv (.v 9)))) .done
@[simp] def W66_1 := @Pl.wpe _ _ K66_1.eq_1
def K66_2 : C := .seq (.pl <| .st (.ext 2 8) <|
    .st (.act none (.px (some 2) (.mv (.v 0)))) <|
    .st (.act none (.px (some 3) (.lenV (.v 2)))) <|
    .st (.act none (.px (some 4) (.bin .eql (.v 3) (.c (.int .i64 3))))) <|
    .st (.act none (.px (some 5) (.mv (.v 4)))) <|
    .st (.act (some (.v 5, true)) (.px (some 6) (.mv (.v 0)))) <|
    .st (.act (some (.v 5, true)) (.ex (some 7) (.call fn_slices_ContainsFunc_S_impl_Expr_impl_Expr [.v 6, .c (.func (.func 119) #[] #[])]))) K66_1) (.ret)
@[simp] def W66_2 := @C.wpe _ _ K66_2.eq_1
def B_impl_LabelsValid : C := .seq (.pl <| .st (.ext 2 0) <|
    .st (.act none (.px (some 1) (.mv (.c (.bool false))))) .done) K66_2
@[simp] def WB_impl_LabelsValid := @C.wpe _ _ B_impl_LabelsValid.eq_1
def R_impl_LabelsValid : FIR := ⟨B_impl_LabelsValid, 2, [(1, none)]⟩
theorem IR_impl_LabelsValid : cfun Try.prog H_impl_LabelsValid Try.f66 = some R_impl_LabelsValid := by kernel_rfl
theorem EN_impl_LabelsValid {args : List Value} {h : Heap} {k : Value → Heap → Prop} (hargs : args.length = 1) (hw : B_impl_LabelsValid.wp Try.prog (retQ [(1, none)] k) (env0 args 2) h) : CallE Try.prog fn_impl_LabelsValid args h k := enter Try.func66 rfl IR_impl_LabelsValid hargs hw

def H_impl_LabelsValid_1 : Hint := ⟨[(0, false), (1, true), (2, false)], []⟩
def K119_1 : Pl := .st (.act none (.px (some 5) (.un .not (.v 4)))) <|
    .st (.act none (.px (some 2) (.mv (.v 5)))) .done
@[simp] def W119_1 := @Pl.wpe _ _ K119_1.eq_1
def K119_2 : C := .seq (.pl <| .st (.ext 3 3) <|
    .st (.act none (.pget (some 3) none 1 0 (some 3))) <|
    .st (.act none (.ex (some 4) (.call fn_impl_ExprValid [.v 3]))) K119_1) (.ret)
@[simp] def W119_2 := @C.wpe _ _ K119_2.eq_1
def B_impl_LabelsValid_1 : C := .seq (.pl <| .st (.ext 3 0) <|
    .st (.act none (.pnew 1 (.v 0) [])) <|
    .st (.act none (.px (some 2) (.mv (.c (.bool false))))) .done) K119_2
@[simp] def WB_impl_LabelsValid_1 := @C.wpe _ _ B_impl_LabelsValid_1.eq_1
def R_impl_LabelsValid_1 : FIR := ⟨B_impl_LabelsValid_1, 3, [(2, none)]⟩
theorem IR_impl_LabelsValid_1 : cfun Try.prog H_impl_LabelsValid_1 Try.f119 = some R_impl_LabelsValid_1 := by kernel_rfl
theorem EN_impl_LabelsValid_1 {args : List Value} {h : Heap} {k : Value → Heap → Prop} (hargs : args.length = 1) (hw : B_impl_LabelsValid_1.wp Try.prog (retQ [(2, none)] k) (env0 args 3) h) : CallE Try.prog fn_impl_LabelsValid_1 args h k := enter Try.func119 rfl IR_impl_LabelsValid_1 hargs hw

def H_impl_RelevantVars : Hint := ⟨[(0, false), (1, false), (2, true), (4, false), (5, false)], []⟩
def K16_1 : Pl := .st (.act none (.px (some 3) (.mv (.v 7)))) <|
    .st (.act none (.px (some 4) (.mv (.c (.bool true))))) .done
@[simp] def W16_1 := @Pl.wpe _ _ K16_1.eq_1
def K16_2 : C := .seq (.pl <| .st (.ext 5 3) <|
    .st (.act none (.pget (some 5) none 2 0 (some 2))) <|
    .st (.act none (.px (some 6) (.mv (.v 1)))) <|
    .st (.act none (.ex (some 7) (.call fn_impl_System_relevant [.v 5, .v 6]))) K16_1) (.ret)
@[simp] def W16_2 := @C.wpe _ _ K16_2.eq_1
def K16_3 : C := .seq (.pl <| .st (.ext 5 0) <|
    .st (.act none (.px (some 3) (.mv (.c (.slice none 0 0))))) <|
    .st (.act none (.px (some 4) (.mv (.c (.bool false))))) .done) (.ret)
@[simp] def W16_3 := @C.wpe _ _ K16_3.eq_1
def K16_4 : C := .cond 5 (.v 12) K16_3 (.skip)
@[simp] def W16_4 := @C.wpe _ _ K16_4.eq_1
def K16_5 : Pl := .st (.act (some (.v 8, false)) (.px (some 11) (.un .not (.v 10)))) <|
    .st (.act none (.px (some 12) (.pick (.v 8) (.c (.bool true)) (.v 11)))) .done
@[simp] def W16_5 := @Pl.wpe _ _ K16_5.eq_1
def K16_6 : Pl := .st (.act none (.px (some 7) (.un .not (.v 6)))) <|
    .st (.act none (.px (some 8) (.mv (.v 7)))) <|
    .st (.act (some (.v 8, false)) (.px (some 9) (.mv (.v 1)))) <|
    .st (.act (some (.v 8, false)) (.ex (some 10) (.call fn_impl_LabelsValid [.v 9]))) K16_5
@[simp] def W16_6 := @Pl.wpe _ _ K16_6.eq_1
def K16_7 : C := .seq (.seq (.pl <| .st (.ext 5 8) <|
    .st (.act none (.pget (some 5) none 2 0 (some 2))) <|
    .st (.act none (.ex (some 6) (.call fn_impl_SystemValid [.v 5]))) K16_6) K16_4) K16_2
@[simp] def W16_7 := @C.wpe _ _ K16_7.eq_1
def B_impl_RelevantVars : C := .seq (.pl <| .st (.ext 5 0) <|
    .st (.act none (.pnew 2 (.v 0) [])) <|
    .st (.act none (.px (some 3) (.mv (.c (.slice none 0 0))))) <|
    .st (.act none (.px (some 4) (.mv (.c (.bool false))))) .done) K16_7
@[simp] def WB_impl_RelevantVars := @C.wpe _ _ B_impl_RelevantVars.eq_1
def R_impl_RelevantVars : FIR := ⟨B_impl_RelevantVars, 5, [(3, none), (4, none)]⟩
theorem IR_impl_RelevantVars : cfun Try.prog H_impl_RelevantVars Try.f16 = some R_impl_RelevantVars := by kernel_rfl
theorem EN_impl_RelevantVars {args : List Value} {h : Heap} {k : Value → Heap → Prop} (hargs : args.length = 2) (hw : B_impl_RelevantVars.wp Try.prog (retQ [(3, none), (4, none)] k) (env0 args 5) h) : CallE Try.prog fn_impl_RelevantVars args h k := enter Try.func16 rfl IR_impl_RelevantVars hargs hw

def H_impl_SystemValid : Hint := ⟨[(0, false), (1, true), (2, false), (4, false), (17, false), (18, false), (19, false)], [[0, 1, 2, 3]]⟩
def K52_1 : C := .seq (.pl <| .st (.ext 7 0) <|
    .st (.act none (.px (some 2) (.mv (.c (.bool true))))) .done) (.ret)
@[simp] def W52_1 := @C.wpe _ _ K52_1.eq_1
def K52_2 : C := .pl <| .st (.ext 7 1) <|
    .st (.act none (.px (some 7) (.bin .add (.v 6) (.c (.int .i64 1))))) <|
    .st (.act none (.px (some 6) (.mv (.v 7)))) .done
@[simp] def W52_2 := @C.wpe _ _ K52_2.eq_1
def K52_3 : C := .seq (.pl <| .st (.ext 7 0) <|
    .st (.act none (.px (some 2) (.mv (.c (.bool false))))) .done) (.ret)
@[simp] def W52_3 := @C.wpe _ _ K52_3.eq_1
def K52_4 : C := .cond 7 (.v 22) K52_3 (.skip)
@[simp] def W52_4 := @C.wpe _ _ K52_4.eq_1
def K52_5 : Pl := .st (.act none (.px (some 22) (.pick (.v 17) (.c (.bool true)) (.v 21)))) .done
@[simp] def W52_5 := @Pl.wpe _ _ K52_5.eq_1
def K52_6 : Pl := .st (.act none (.px (some 10) (.un .not (.v 9)))) <|
    .st (.act none (.px (some 11) (.mv (.v 10)))) <|
    .st (.act (some (.v 11, false)) (.px (some 12) (.fa 1 (.v 3)))) <|
    .st (.act (some (.v 11, false)) (.ld (some 13) (.v 12) none)) <|
    .st (.act (some (.v 11, false)) (.px (some 14) (.lenV (.v 13)))) <|
    .st (.act (some (.v 11, false)) (.px (some 15) (.bin .gtr (.v 14) (.c (.int .i64 6))))) <|
    .st (.act none (.px (some 16) (.pick (.v 11) (.c (.bool true)) (.v 15)))) <|
    .st (.act none (.px (some 17) (.mv (.v 16)))) <|
    .st (.act (some (.v 17, false)) (.px (some 18) (.fa 1 (.v 3)))) <|
    .st (.act (some (.v 17, false)) (.ld (some 19) (.v 18) none)) <|
    .st (.act (some (.v 17, false)) (.px (some 20) (.mkf (.func fn_impl_SystemValid_1) [] [.v 3]))) <|
    .st (.act (some (.v 17, false)) (.ex (some 21) (.call fn_slices_ContainsFunc_S_impl_Edge_impl_Edge [.v 19, .v 20]))) K52_5
@[simp] def W52_6 := @Pl.wpe _ _ K52_6.eq_1
def K52_7 : C := .seq (.pl <| .st (.ext 7 16) <|
    .st (.act none (.px (some 7) (.fa 0 (.v 3)))) <|
    .st (.act none (.ld (some 8) (.v 7) none)) <|
    .st (.act none (.ex (some 9) (.call fn_impl_in [.v 8, .c (.int .i64 1), .c (.int .i64 4)]))) K52_6) K52_4
@[simp] def W52_7 := @C.wpe _ _ K52_7.eq_1
def K52_8 : Pl := .st (.act none (.ex none (.store 2 (.v 3) (.v 8)))) .done
@[simp] def W52_8 := @Pl.wpe _ _ K52_8.eq_1
def K52_9 : C := .seq (.block 1 (.seq (.pl <| .st (.ext 7 2) <|
    .st (.act none (.px (some 7) (.ia 2 (.v 4) (.v 6)))) <|
    .st (.act none (.ld (some 8) (.v 7) (some 2))) <|
    .st (.act none (.ex (some 3) (.alloc (.c (.agg #[.int .i64 0, .slice none 0 0]))))) K52_8) K52_7)) K52_2
@[simp] def W52_9 := @C.wpe _ _ K52_9.eq_1
def K52_10 : C := .seq (.cond 7 (.v 7) (.skip) (.exit 0)) K52_9
@[simp] def W52_10 := @C.wpe _ _ K52_10.eq_1
def K52_11 : C := .seq (.pl <| .st (.ext 7 1) <|
    .st (.act none (.px (some 7) (.bin .lss (.v 6) (.v 5)))) .done) K52_10
@[simp] def W52_11 := @C.wpe _ _ K52_11.eq_1
def K52_12 : C := .block 0 (.loop 7 [0, 1, 2, 3] K52_11)
@[simp] def W52_12 := @C.wpe _ _ K52_12.eq_1
def K52_13 : C := .seq (.seq (.pl <| .st (.ext 7 1) <|
    .st (.act none (.als 7 none 1)) <|
    .st (.act none (.pget (some 4) (some 7) 1 1 none)) <|
    .st (.act none (.px (some 5) (.lenV (.v 4)))) <|
    .st (.act none (.px (some 6) (.mv (.c (.int .i64 0))))) .done) K52_12) K52_1
@[simp] def W52_13 := @C.wpe _ _ K52_13.eq_1
def K52_14 : C := .seq (.pl <| .st (.ext 7 0) <|
    .st (.act none (.px (some 2) (.mv (.c (.bool false))))) .done) (.ret)
@[simp] def W52_14 := @C.wpe _ _ K52_14.eq_1
def K52_15 : C := .cond 7 (.v 17) K52_14 (.skip)
@[simp] def W52_15 := @C.wpe _ _ K52_15.eq_1
def K52_16 : Pl := .st (.act (some (.v 11, false)) (.px (some 16) (.un .not (.v 15)))) <|
    .st (.act none (.px (some 17) (.pick (.v 11) (.c (.bool true)) (.v 16)))) .done
@[simp] def W52_16 := @Pl.wpe _ _ K52_16.eq_1
def K52_17 : Pl := .st (.act none (.px (some 10) (.un .not (.v 9)))) <|
    .st (.act none (.px (some 11) (.mv (.v 10)))) <|
    .st (.act (some (.v 11, false)) (.als 12 none 1)) <|
    .st (.act (some (.v 11, false)) (.pget (some 13) (some 12) 1 1 none)) <|
    .st (.act (some (.v 11, false)) (.px (some 14) (.lenV (.v 13)))) <|
    .st (.act (some (.v 11, false)) (.ex (some 15) (.call fn_impl_in [.v 14, .c (.int .i64 1), .c (.int .i64 3)]))) K52_16
@[simp] def W52_17 := @Pl.wpe _ _ K52_17.eq_1
def K52_18 : C := .seq (.seq (.pl <| .st (.ext 7 11) <|
    .st (.act none (.als 7 none 1)) <|
    .st (.act none (.pget (some 8) (some 7) 1 0 none)) <|
    .st (.act none (.ex (some 9) (.call fn_impl_valsOk [.v 8]))) K52_17) K52_15) K52_13
@[simp] def W52_18 := @C.wpe _ _ K52_18.eq_1
def B_impl_SystemValid : C := .seq (.pl <| .st (.ext 7 0) <|
    .st (.act none (.pnew 1 (.v 0) [])) <|
    .st (.act none (.px (some 2) (.mv (.c (.bool false))))) .done) K52_18
@[simp] def WB_impl_SystemValid := @C.wpe _ _ B_impl_SystemValid.eq_1
def R_impl_SystemValid : FIR := ⟨B_impl_SystemValid, 7, [(2, none)]⟩
theorem IR_impl_SystemValid : cfun Try.prog H_impl_SystemValid Try.f52 = some R_impl_SystemValid := by kernel_rfl
theorem EN_impl_SystemValid {args : List Value} {h : Heap} {k : Value → Heap → Prop} (hargs : args.length = 1) (hw : B_impl_SystemValid.wp Try.prog (retQ [(2, none)] k) (env0 args 7) h) : CallE Try.prog fn_impl_SystemValid args h k := enter Try.func52 rfl IR_impl_SystemValid hargs hw

def H_impl_SystemValid_1 : Hint := ⟨[(0, false), (1, false), (2, true), (3, false)], []⟩
def K108_1 : Pl := .st (.act none (.px (some 8) (.un .not (.v 7)))) <|
    .st (.act none (.px (some 3) (.mv (.v 8)))) .done
@[simp] def W108_1 := @Pl.wpe _ _ K108_1.eq_1
def K108_2 : C := .seq (.pl <| .st (.ext 4 5) <|
    .st (.act none (.pget (some 4) none 2 0 (some 10))) <|
    .st (.act none (.px (some 5) (.fa 0 (.v 1)))) <|
    .st (.act none (.ld (some 6) (.v 5) none)) <|
    .st (.act none (.ex (some 7) (.call fn_impl_EdgeValid [.v 4, .v 6]))) K108_1) (.ret)
@[simp] def W108_2 := @C.wpe _ _ K108_2.eq_1
def B_impl_SystemValid_1 : C := .seq (.pl <| .st (.ext 4 0) <|
    .st (.act none (.pnew 2 (.v 0) [])) <|
    .st (.act none (.px (some 3) (.mv (.c (.bool false))))) .done) K108_2
@[simp] def WB_impl_SystemValid_1 := @C.wpe _ _ B_impl_SystemValid_1.eq_1
def R_impl_SystemValid_1 : FIR := ⟨B_impl_SystemValid_1, 4, [(3, none)]⟩
theorem IR_impl_SystemValid_1 : cfun Try.prog H_impl_SystemValid_1 Try.f108 = some R_impl_SystemValid_1 := by kernel_rfl
theorem EN_impl_SystemValid_1 {args : List Value} {h : Heap} {k : Value → Heap → Prop} (hargs : args.length = 2) (hw : B_impl_SystemValid_1.wp Try.prog (retQ [(3, none)] k) (env0 args 4) h) : CallE Try.prog fn_impl_SystemValid_1 args h k := enter Try.func108 rfl IR_impl_SystemValid_1 hargs hw

def H_impl_System_relevant : Hint := ⟨[(0, false), (1, false), (2, true), (4, false), (5, false), (7, true), (9, true), (11, true), (13, true), (15, true), (17, false), (18, false), (19, false), (28, false), (29, false), (30, false), (35, false), (36, false), (37, false), (47, false), (50, false), (51, false), (52, false), (57, false), (58, false), (59, false)], [[0, 1, 3, 5, 6, 7, 8, 9, 13, 14, 15, 16, 17, 18, 19, 20, 21, 22, 23, 24, 25], [0, 1, 3, 5, 6, 7, 8, 9, 10, 11, 12, 16, 17, 18, 19, 20, 21, 22, 23, 24, 25], [0, 1, 3, 5, 6, 7, 8, 9, 10, 11, 12, 19, 20, 21, 22, 23, 24, 25], [0, 1, 3, 5, 6, 7, 8, 9, 10, 11, 12, 13, 14, 15, 16, 17, 18, 20, 21, 22, 23, 24, 25], [0, 1, 3, 5, 6, 7, 8, 9, 10, 11, 12, 13, 14, 15, 16, 17, 18, 23, 24, 25], [0, 1, 3, 5, 6, 7, 8, 9, 10, 11, 12, 13, 14, 15, 16, 17, 18]]⟩
def K67_1 : C := .seq (.pl <| .st (.ext 26 1) <|
    .st (.act none (.px (some 26) (.mv (.v 4)))) <|
    .st (.act none (.px (some 3) (.mv (.v 26)))) .done) (.ret)
@[simp] def W67_1 := @C.wpe _ _ K67_1.eq_1
def K67_2 : C := .pl <| .st (.ext 26 1) <|
    .st (.act none (.px (some 26) (.bin .add (.v 19) (.c (.int .i64 1))))) <|
    .st (.act none (.px (some 19) (.mv (.v 26)))) .done
@[simp] def W67_2 := @C.wpe _ _ K67_2.eq_1
def K67_3 : C := .pl <| .st (.ext 26 1) <|
    .st (.act none (.px (some 26) (.bin .add (.v 22) (.c (.int .i64 1))))) <|
    .st (.act none (.px (some 22) (.mv (.v 26)))) .done
@[simp] def W67_3 := @C.wpe _ _ K67_3.eq_1
def K67_4 : C := .pl <| .st (.ext 26 1) <|
    .st (.act none (.px (some 26) (.bin .add (.v 25) (.c (.int .i64 1))))) <|
    .st (.act none (.px (some 25) (.mv (.v 26)))) .done
@[simp] def W67_4 := @C.wpe _ _ K67_4.eq_1
def K67_5 : C := .pl <| .st (.ext 26 4) <|
    .st (.act none (.als 26 none 9)) <|
    .st (.act none (.pget (some 27) (some 26) 9 6 (some 3))) <|
    .st (.act none (.px (some 28) (.mv (.v 4)))) <|
    .st (.act none (.ex (some 29) (.call fn_impl_Expr_vars [.v 27, .v 28]))) .done
@[simp] def W67_5 := @C.wpe _ _ K67_5.eq_1
def K67_6 : C := .cond 26 (.v 35) K67_5 (.skip)
@[simp] def W67_6 := @C.wpe _ _ K67_6.eq_1
def K67_7 : C := .seq (.pl <| .st (.ext 26 10) <|
    .st (.act none (.als 26 none 9)) <|
    .st (.act none (.pget (some 27) (some 26) 9 5 none)) <|
    .st (.act none (.px (some 28) (.bin .geq (.v 27) (.c (.int .i64 0))))) <|
    .st (.act none (.px (some 29) (.mv (.v 28)))) <|
    .st (.act (some (.v 29, true)) (.px (some 30) (.mv (.v 4)))) <|
    .st (.act (some (.v 29, true)) (.als 31 none 9)) <|
    .st (.act (some (.v 29, true)) (.pget (some 32) (some 31) 9 5 none)) <|
    .st (.act (some (.v 29, true)) (.px (some 33) (.ia 1 (.v 30) (.v 32)))) <|
    .st (.act (some (.v 29, true)) (.ld (some 34) (.v 33) none)) <|
    .st (.act none (.px (some 35) (.pick (.v 29) (.v 34) (.c (.bool false))))) .done) K67_6
@[simp] def W67_7 := @C.wpe _ _ K67_7.eq_1
def K67_8 : C := .seq (.block 11 (.seq (.pl <| .st (.ext 26 2) <|
    .st (.act none (.px (some 26) (.ia 10 (.v 23) (.v 25)))) <|
    .st (.act none (.ld (some 27) (.v 26) (some 10))) <|
    .st (.act none (.pnew 9 (.c (.agg #[.int .i64 0, .int .i64 0, .int .i64 0, .int .i64 0, .slice none 0 0, .int .i64 0, .int .i64 0, .int .i64 0, .slice none 0 0, .int .i64 0])) [])) <|
    .st (.act none (.pset none 9 0 10 (.v 27))) .done) K67_7)) K67_4
@[simp] def W67_8 := @C.wpe _ _ K67_8.eq_1
def K67_9 : C := .seq (.cond 26 (.v 26) (.skip) (.exit 10)) K67_8
@[simp] def W67_9 := @C.wpe _ _ K67_9.eq_1
def K67_10 : C := .seq (.pl <| .st (.ext 26 1) <|
    .st (.act none (.px (some 26) (.bin .lss (.v 25) (.v 24)))) .done) K67_9
@[simp] def W67_10 := @C.wpe _ _ K67_10.eq_1
def K67_11 : C := .block 10 (.loop 26 [0, 1, 3, 5, 6, 7, 8, 9, 10, 11, 12, 13, 14, 15, 16, 17, 18] K67_10)
@[simp] def W67_11 := @C.wpe _ _ K67_11.eq_1
def K67_12 : C := .seq (.pl <| .st (.ext 26 1) <|
    .st (.act none (.als 26 none 8)) <|
    .st (.act none (.pget (some 23) (some 26) 8 1 none)) <|
    .st (.act none (.px (some 24) (.lenV (.v 23)))) <|
    .st (.act none (.px (some 25) (.mv (.c (.int .i64 0))))) .done) K67_11
@[simp] def W67_12 := @C.wpe _ _ K67_12.eq_1
def K67_13 : C := .seq (.block 9 (.seq (.pl <| .st (.ext 26 2) <|
    .st (.act none (.px (some 26) (.ia 2 (.v 20) (.v 22)))) <|
    .st (.act none (.ld (some 27) (.v 26) (some 2))) <|
    .st (.act none (.pnew 8 (.c (.agg #[.int .i64 0, .slice none 0 0])) [])) <|
    .st (.act none (.pset none 8 0 2 (.v 27))) .done) K67_12)) K67_3
@[simp] def W67_13 := @C.wpe _ _ K67_13.eq_1
def K67_14 : C := .seq (.cond 26 (.v 26) (.skip) (.exit 8)) K67_13
@[simp] def W67_14 := @C.wpe _ _ K67_14.eq_1
def K67_15 : C := .seq (.pl <| .st (.ext 26 1) <|
    .st (.act none (.px (some 26) (.bin .lss (.v 22) (.v 21)))) .done) K67_14
@[simp] def W67_15 := @C.wpe _ _ K67_15.eq_1
def K67_16 : C := .block 8 (.loop 26 [0, 1, 3, 5, 6, 7, 8, 9, 10, 11, 12, 13, 14, 15, 16, 17, 18, 23, 24, 25] K67_15)
@[simp] def W67_16 := @C.wpe _ _ K67_16.eq_1
def K67_17 : C := .seq (.block 7 (.seq (.pl <| .st (.ext 26 1) <|
    .st (.act none (.als 26 none 2)) <|
    .st (.act none (.pget (some 20) (some 26) 2 1 none)) <|
    .st (.act none (.px (some 21) (.lenV (.v 20)))) <|
    .st (.act none (.px (some 22) (.mv (.c (.int .i64 0))))) .done) K67_16)) K67_2
@[simp] def W67_17 := @C.wpe _ _ K67_17.eq_1
def K67_18 : C := .seq (.cond 26 (.v 26) (.skip) (.exit 6)) K67_17
@[simp] def W67_18 := @C.wpe _ _ K67_18.eq_1
def K67_19 : C := .seq (.pl <| .st (.ext 26 1) <|
    .st (.act none (.px (some 26) (.bin .lss (.v 19) (.c (.int .i64 3))))) .done) K67_18
@[simp] def W67_19 := @C.wpe _ _ K67_19.eq_1
def K67_20 : C := .block 6 (.loop 26 [0, 1, 3, 5, 6, 7, 8, 9, 10, 11, 12, 13, 14, 15, 16, 17, 18, 20, 21, 22, 23, 24, 25] K67_19)
@[simp] def W67_20 := @C.wpe _ _ K67_20.eq_1
def K67_21 : C := .seq (.seq (.pl <| .st (.ext 26 0) <|
    .st (.act none (.px (some 19) (.mv (.c (.int .i64 0))))) .done) K67_20) K67_1
@[simp] def W67_21 := @C.wpe _ _ K67_21.eq_1
def K67_22 : C := .pl <| .st (.ext 26 1) <|
    .st (.act none (.px (some 26) (.bin .add (.v 15) (.c (.int .i64 1))))) <|
    .st (.act none (.px (some 15) (.mv (.v 26)))) .done
@[simp] def W67_22 := @C.wpe _ _ K67_22.eq_1
def K67_23 : C := .pl <| .st (.ext 26 1) <|
    .st (.act none (.px (some 26) (.bin .add (.v 18) (.c (.int .i64 1))))) <|
    .st (.act none (.px (some 18) (.mv (.v 26)))) .done
@[simp] def W67_23 := @C.wpe _ _ K67_23.eq_1
def K67_24 : C := .pl <| .st (.ext 26 4) <|
    .st (.act none (.als 26 none 7)) <|
    .st (.act none (.pget (some 27) (some 26) 7 2 (some 3))) <|
    .st (.act none (.px (some 28) (.mv (.v 4)))) <|
    .st (.act none (.ex (some 29) (.call fn_impl_Expr_vars [.v 27, .v 28]))) .done
@[simp] def W67_24 := @C.wpe _ _ K67_24.eq_1
def K67_25 : C := .seq (.block 5 (.seq (.pl <| .st (.ext 26 2) <|
    .st (.act none (.px (some 26) (.ia 10 (.v 16) (.v 18)))) <|
    .st (.act none (.ld (some 27) (.v 26) (some 10))) <|
    .st (.act none (.pnew 7 (.c (.agg #[.int .i64 0, .int .i64 0, .int .i64 0, .int .i64 0, .slice none 0 0, .int .i64 0, .int .i64 0, .int .i64 0, .slice none 0 0, .int .i64 0])) [])) <|
    .st (.act none (.pset none 7 0 10 (.v 27))) .done) K67_24)) K67_23
@[simp] def W67_25 := @C.wpe _ _ K67_25.eq_1
def K67_26 : C := .seq (.cond 26 (.v 26) (.skip) (.exit 4)) K67_25
@[simp] def W67_26 := @C.wpe _ _ K67_26.eq_1
def K67_27 : C := .seq (.pl <| .st (.ext 26 1) <|
    .st (.act none (.px (some 26) (.bin .lss (.v 18) (.v 17)))) .done) K67_26
@[simp] def W67_27 := @C.wpe _ _ K67_27.eq_1
def K67_28 : C := .block 4 (.loop 26 [0, 1, 3, 5, 6, 7, 8, 9, 10, 11, 12, 19, 20, 21, 22, 23, 24, 25] K67_27)
@[simp] def W67_28 := @C.wpe _ _ K67_28.eq_1
def K67_29 : C := .seq (.pl <| .st (.ext 26 1) <|
    .st (.act none (.als 26 none 6)) <|
    .st (.act none (.pget (some 16) (some 26) 6 1 none)) <|
    .st (.act none (.px (some 17) (.lenV (.v 16)))) <|
    .st (.act none (.px (some 18) (.mv (.c (.int .i64 0))))) .done) K67_28
@[simp] def W67_29 := @C.wpe _ _ K67_29.eq_1
def K67_30 : C := .seq (.block 3 (.seq (.pl <| .st (.ext 26 2) <|
    .st (.act none (.px (some 26) (.ia 2 (.v 13) (.v 15)))) <|
    .st (.act none (.ld (some 27) (.v 26) (some 2))) <|
    .st (.act none (.pnew 6 (.c (.agg #[.int .i64 0, .slice none 0 0])) [])) <|
    .st (.act none (.pset none 6 0 2 (.v 27))) .done) K67_29)) K67_22
@[simp] def W67_30 := @C.wpe _ _ K67_30.eq_1
def K67_31 : C := .seq (.cond 26 (.v 26) (.skip) (.exit 2)) K67_30
@[simp] def W67_31 := @C.wpe _ _ K67_31.eq_1
def K67_32 : C := .seq (.pl <| .st (.ext 26 1) <|
    .st (.act none (.px (some 26) (.bin .lss (.v 15) (.v 14)))) .done) K67_31
@[simp] def W67_32 := @C.wpe _ _ K67_32.eq_1
def K67_33 : C := .block 2 (.loop 26 [0, 1, 3, 5, 6, 7, 8, 9, 10, 11, 12, 16, 17, 18, 19, 20, 21, 22, 23, 24, 25] K67_32)
@[simp] def W67_33 := @C.wpe _ _ K67_33.eq_1
def K67_34 : C := .seq (.seq (.pl <| .st (.ext 26 1) <|
    .st (.act none (.als 26 none 2)) <|
    .st (.act none (.pget (some 13) (some 26) 2 1 none)) <|
    .st (.act none (.px (some 14) (.lenV (.v 13)))) <|
    .st (.act none (.px (some 15) (.mv (.c (.int .i64 0))))) .done) K67_33) K67_21
@[simp] def W67_34 := @C.wpe _ _ K67_34.eq_1
def K67_35 : C := .pl <| .st (.ext 26 1) <|
    .st (.act none (.px (some 26) (.bin .add (.v 12) (.c (.int .i64 1))))) <|
    .st (.act none (.px (some 12) (.mv (.v 26)))) .done
@[simp] def W67_35 := @C.wpe _ _ K67_35.eq_1
def K67_36 : C := .pl <| .st (.ext 26 3) <|
    .st (.act none (.pget (some 26) none 5 0 (some 3))) <|
    .st (.act none (.px (some 27) (.mv (.v 4)))) <|
    .st (.act none (.ex (some 28) (.call fn_impl_Expr_vars [.v 26, .v 27]))) .done
@[simp] def W67_36 := @C.wpe _ _ K67_36.eq_1
def K67_37 : C := .seq (.block 1 (.seq (.pl <| .st (.ext 26 2) <|
    .st (.act none (.px (some 26) (.ia 3 (.v 10) (.v 12)))) <|
    .st (.act none (.ld (some 27) (.v 26) (some 3))) <|
    .st (.act none (.pnew 5 (.c (.agg #[.int .i64 0, .int .i64 0, .slice none 0 0])) [])) <|
    .st (.act none (.pset none 5 0 3 (.v 27))) .done) K67_36)) K67_35
@[simp] def W67_37 := @C.wpe _ _ K67_37.eq_1
def K67_38 : C := .seq (.cond 26 (.v 26) (.skip) (.exit 0)) K67_37
@[simp] def W67_38 := @C.wpe _ _ K67_38.eq_1
def K67_39 : C := .seq (.pl <| .st (.ext 26 1) <|
    .st (.act none (.px (some 26) (.bin .lss (.v 12) (.v 11)))) .done) K67_38
@[simp] def W67_39 := @C.wpe _ _ K67_39.eq_1
def K67_40 : C := .block 0 (.loop 26 [0, 1, 3, 5, 6, 7, 8, 9, 13, 14, 15, 16, 17, 18, 19, 20, 21, 22, 23, 24, 25] K67_39)
@[simp] def W67_40 := @C.wpe _ _ K67_40.eq_1
def K67_41 : C := .seq (.seq (.pl <| .st (.ext 26 0) <|
    .st (.act none (.px (some 10) (.mv (.v 1)))) <|
    .st (.act none (.px (some 11) (.lenV (.v 10)))) <|
    .st (.act none (.px (some 12) (.mv (.c (.int .i64 0))))) .done) K67_40) K67_34
@[simp] def W67_41 := @C.wpe _ _ K67_41.eq_1
def K67_42 : Pl := .st (.act none (.px (some 4) (.mv (.v 26)))) .done
@[simp] def W67_42 := @Pl.wpe _ _ K67_42.eq_1
def K67_43 : C := .seq (.pl <| .st (.ext 26 1) <|
    .st (.act none (.ex (some 26) (.mks 1 1 [.bool false] (.c (.int .i64 3)) (.c (.int .i64 3))))) K67_42) K67_41
@[simp] def W67_43 := @C.wpe _ _ K67_43.eq_1
def B_impl_System_relevant : C := .seq (.pl <| .st (.ext 26 0) <|
    .st (.act none (.pnew 2 (.v 0) [])) <|
    .st (.act none (.px (some 3) (.mv (.c (.slice none 0 0))))) .done) K67_43
@[simp] def WB_impl_System_relevant := @C.wpe _ _ B_impl_System_relevant.eq_1
def R_impl_System_relevant : FIR := ⟨B_impl_System_relevant, 26, [(3, none)]⟩
theorem IR_impl_System_relevant : cfun Try.prog H_impl_System_relevant Try.f67 = some R_impl_System_relevant := by kernel_rfl
theorem EN_impl_System_relevant {args : List Value} {h : Heap} {k : Value → Heap → Prop} (hargs : args.length = 2) (hw : B_impl_System_relevant.wp Try.prog (retQ [(3, none)] k) (env0 args 26) h) : CallE Try.prog fn_impl_System_relevant args h k := enter Try.func67 rfl IR_impl_System_relevant hargs hw

def H_impl_in : Hint := ⟨[(0, false), (1, false), (2, false), (6, false)], []⟩
def K106_1 : C := .seq (.pl <| .st (.ext 4 8) <|
    .st (.act none (.px (some 4) (.mv (.v 0)))) <|
    .st (.act none (.px (some 5) (.mv (.v 1)))) <|
    .st (.act none (.px (some 6) (.bin .geq (.v 4) (.v 5)))) <|
    .st (.act none (.px (some 7) (.mv (.v 6)))) <|
    .st (.act (some (.v 7, true)) (.px (some 8) (.mv (.v 0)))) <|
    .st (.act (some (.v 7, true)) (.px (some 9) (.mv (.v 2)))) <|
    .st (.act (some (.v 7, true)) (.px (some 10) (.bin .leq (.v 8) (.v 9)))) <|
    .st (.act none (.px (some 11) (.pick (.v 7) (.v 10) (.c (.bool false))))) <|
    .st (.act none (.px (some 3) (.mv (.v 11)))) .done) (.ret)
@[simp] def W106_1 := @C.wpe _ _ K106_1.eq_1
def B_impl_in : C := .seq (.pl <| .st (.ext 4 0) <|
    .st (.act none (.px (some 3) (.mv (.c (.bool false))))) .done) K106_1
@[simp] def WB_impl_in := @C.wpe _ _ B_impl_in.eq_1
def R_impl_in : FIR := ⟨B_impl_in, 4, [(3, none)]⟩
theorem IR_impl_in : cfun Try.prog H_impl_in Try.f106 = some R_impl_in := by kernel_rfl
theorem EN_impl_in {args : List Value} {h : Heap} {k : Value → Heap → Prop} (hargs : args.length = 3) (hw : B_impl_in.wp Try.prog (retQ [(3, none)] k) (env0 args 4) h) : CallE Try.prog fn_impl_in args h k := enter Try.func106 rfl IR_impl_in hargs hw

def H_impl_valsOk : Hint := ⟨[(0, false), (2, false)], []⟩
def K105_1 : Pl := .st (.act (some (.v 5, true)) (.px (some 8) (.un .not (.v 7)))) <|
    .st (.act none (.px (some 9) (.pick (.v 5) (.v 8) (.c (.bool false))))) <|
    .st (.act none (.px (some 1) (.mv (.v 9)))) .done
@[simp] def W105_1 := @Pl.wpe _ _ K105_1.eq_1
def K105_2 : C := .seq (.pl <| .st (.ext 2 8) <|
    .st (.act none (.px (some 2) (.mv (.v 0)))) <|
    .st (.act none (.px (some 3) (.lenV (.v 2)))) <|
    .st (.act none (.px (some 4) (.bin .eql (.v 3) (.c (.int .i64 3))))) <|
    .st (.act none (.px (some 5) (.mv (.v 4)))) <|
    .st (.act (some (.v 5, true)) (.px (some 6) (.mv (.v 0)))) <|
    .st (.act (some (.v 5, true)) (.ex (some 7) (.call fn_slices_ContainsFunc_S_int_int [.v 6, .c (.func (.func 148) #[] #[])]))) K105_1) (.ret)
@[simp] def W105_2 := @C.wpe _ _ K105_2.eq_1
def B_impl_valsOk : C := .seq (.pl <| .st (.ext 2 0) <|
    .st (.act none (.px (some 1) (.mv (.c (.bool false))))) .done) K105_2
@[simp] def WB_impl_valsOk := @C.wpe _ _ B_impl_valsOk.eq_1
def R_impl_valsOk : FIR := ⟨B_impl_valsOk, 2, [(1, none)]⟩
theorem IR_impl_valsOk : cfun Try.prog H_impl_valsOk Try.f105 = some R_impl_valsOk := by kernel_rfl
theorem EN_impl_valsOk {args : List Value} {h : Heap} {k : Value → Heap → Prop} (hargs : args.length = 1) (hw : B_impl_valsOk.wp Try.prog (retQ [(1, none)] k) (env0 args 2) h) : CallE Try.prog fn_impl_valsOk args h k := enter Try.func105 rfl IR_impl_valsOk hargs hw

def H_impl_valsOk_1 : Hint := ⟨[(0, false), (2, false)], []⟩
def K148_1 : Pl := .st (.act none (.px (some 4) (.un .not (.v 3)))) <|
    .st (.act none (.px (some 1) (.mv (.v 4)))) .done
@[simp] def W148_1 := @Pl.wpe _ _ K148_1.eq_1
def K148_2 : C := .seq (.pl <| .st (.ext 2 3) <|
    .st (.act none (.px (some 2) (.mv (.v 0)))) <|
    .st (.act none (.ex (some 3) (.call fn_impl_in [.v 2, .c (.int .i64 0), .c (.int .i64 3)]))) K148_1) (.ret)
@[simp] def W148_2 := @C.wpe _ _ K148_2.eq_1
def B_impl_valsOk_1 : C := .seq (.pl <| .st (.ext 2 0) <|
    .st (.act none (.px (some 1) (.mv (.c (.bool false))))) .done) K148_2
@[simp] def WB_impl_valsOk_1 := @C.wpe _ _ B_impl_valsOk_1.eq_1
def R_impl_valsOk_1 : FIR := ⟨B_impl_valsOk_1, 2, [(1, none)]⟩
theorem IR_impl_valsOk_1 : cfun Try.prog H_impl_valsOk_1 Try.f148 = some R_impl_valsOk_1 := by kernel_rfl
theorem EN_impl_valsOk_1 {args : List Value} {h : Heap} {k : Value → Heap → Prop} (hargs : args.length = 1) (hw : B_impl_valsOk_1.wp Try.prog (retQ [(1, none)] k) (env0 args 2) h) : CallE Try.prog fn_impl_valsOk_1 args h k := enter Try.func148 rfl IR_impl_valsOk_1 hargs hw

def H_laws_FnExactRelevantVars : Hint := ⟨[(0, false), (1, false), (2, true), (4, false), (5, false), (6, false), (7, false), (8, true), (9, false), (10, false), (11, false), (12, false), (13, false), (14, false), (15, false), (16, false)], []⟩
def K3_1 : C := .seq (.pl <| .st (.ext 16 0) <|
    .st (.act none (.px (some 3) (.mv (.c (.bool true))))) .done) (.ret)
@[simp] def W3_1 := @C.wpe _ _ K3_1.eq_1
def K3_2 : C := .seq (.pl <| .st (.ext 16 0) <|
    .st (.act none (.px (some 3) (.mv (.c (.bool false))))) .done) (.ret)
@[simp] def W3_2 := @C.wpe _ _ K3_2.eq_1
def K3_3 : C := .cond 16 (.v 18) K3_2 (.skip)
@[simp] def W3_3 := @C.wpe _ _ K3_3.eq_1
def K3_4 : C := .seq (.seq (.pl <| .st (.ext 16 3) <|
    .st (.act none (.px (some 16) (.mv (.v 13)))) <|
    .st (.act none (.px (some 17) (.mv (.v 12)))) <|
    .st (.act none (.px (some 18) (.bin .neq (.v 16) (.v 17)))) .done) K3_3) K3_1
@[simp] def W3_4 := @C.wpe _ _ K3_4.eq_1
def K3_5 : C := .seq (.pl <| .st (.ext 16 0) <|
    .st (.act none (.px (some 3) (.mv (.c (.bool false))))) .done) (.ret)
@[simp] def W3_5 := @C.wpe _ _ K3_5.eq_1
def K3_6 : C := .cond 16 (.v 17) K3_5 (.skip)
@[simp] def W3_6 := @C.wpe _ _ K3_6.eq_1
def K3_7 : C := .seq (.seq (.pl <| .st (.ext 16 2) <|
    .st (.act none (.px (some 16) (.mv (.v 13)))) <|
    .st (.act none (.px (some 17) (.bin .lss (.v 16) (.c (.int .i64 0))))) .done) K3_6) K3_4
@[simp] def W3_7 := @C.wpe _ _ K3_7.eq_1
def K3_8 : Pl := .st (.act none (.px (some 13) (.mv (.v 18)))) .done
@[simp] def W3_8 := @Pl.wpe _ _ K3_8.eq_1
def K3_9 : C := .seq (.pl <| .st (.ext 16 3) <|
    .st (.act none (.px (some 16) (.mv (.v 9)))) <|
    .st (.act none (.px (some 17) (.mv (.v 13)))) <|
    .st (.act none (.ex (some 18) (.call fn_laws_heldBoolS [.v 16, .v 17]))) K3_8) K3_7
@[simp] def W3_9 := @C.wpe _ _ K3_9.eq_1
def K3_10 : C := .seq (.pl <| .st (.ext 16 0) <|
    .st (.act none (.px (some 13) (.mv (.c (.int .i64 1))))) .done) K3_9
@[simp] def W3_10 := @C.wpe _ _ K3_10.eq_1
def K3_11 : C := .seq (.pl <| .st (.ext 16 0) <|
    .st (.act none (.px (some 3) (.mv (.c (.bool false))))) .done) (.ret)
@[simp] def W3_11 := @C.wpe _ _ K3_11.eq_1
def K3_12 : C := .cond 16 (.v 24) K3_11 (.skip)
@[simp] def W3_12 := @C.wpe _ _ K3_12.eq_1
def K3_13 : Pl := .st (.act none (.px (some 19) (.un .not (.v 18)))) <|
    .st (.act none (.px (some 20) (.mv (.v 19)))) <|
    .st (.act (some (.v 20, false)) (.px (some 21) (.mv (.v 15)))) <|
    .st (.act (some (.v 20, false)) (.px (some 22) (.mv (.v 6)))) <|
    .st (.act (some (.v 20, false)) (.px (some 23) (.eqb true (.v 21) (.v 22)))) <|
    .st (.act none (.px (some 24) (.pick (.v 20) (.c (.bool true)) (.v 23)))) .done
@[simp] def W3_13 := @Pl.wpe _ _ K3_13.eq_1
def K3_14 : C := .seq (.seq (.pl <| .st (.ext 16 9) <|
    .st (.act none (.px (some 16) (.mv (.v 14)))) <|
    .st (.act none (.px (some 17) (.mv (.v 5)))) <|
    .st (.act none (.ex (some 18) (.call fn_laws_eqBoolS [.v 16, .v 17]))) K3_13) K3_12) K3_10
@[simp] def W3_14 := @C.wpe _ _ K3_14.eq_1
def K3_15 : Pl := .st (.act none (.px (some 21) (.mv (.v 20)))) <|
    .st (.act none (.px (some 22) (.extract 0 (.v 21)))) <|
    .st (.act none (.px (some 23) (.extract 1 (.v 21)))) <|
    .st (.act none (.px (some 14) (.mv (.v 22)))) <|
    .st (.act none (.px (some 15) (.mv (.v 23)))) .done
@[simp] def W3_15 := @Pl.wpe _ _ K3_15.eq_1
def K3_16 : Pl := .st (.act none (.ex (some 20) (.call fn_impl_RelevantVars [.v 17, .v 19]))) K3_15
@[simp] def W3_16 := @Pl.wpe _ _ K3_16.eq_1
def K3_17 : Pl := .st (.act none (.px (some 18) (.mv (.v 1)))) <|
    .st (.act none (.ex (some 19) (.call fn_laws_toExprS [.v 18]))) K3_16
@[simp] def W3_17 := @Pl.wpe _ _ K3_17.eq_1
def K3_18 : C := .seq (.pl <| .st (.ext 16 8) <|
    .st (.act none (.pget (some 16) none 2 0 (some 2))) <|
    .st (.act none (.ex (some 17) (.call fn_laws_toSystem [.v 16]))) K3_17) K3_14
@[simp] def W3_18 := @C.wpe _ _ K3_18.eq_1
def K3_19 : C := .seq (.pl <| .st (.ext 16 0) <|
    .st (.act none (.px (some 3) (.mv (.c (.bool false))))) .done) (.ret)
@[simp] def W3_19 := @C.wpe _ _ K3_19.eq_1
def K3_20 : C := .cond 16 (.v 18) K3_19 (.skip)
@[simp] def W3_20 := @C.wpe _ _ K3_20.eq_1
def K3_21 : C := .seq (.seq (.pl <| .st (.ext 16 3) <|
    .st (.act none (.px (some 16) (.mv (.v 13)))) <|
    .st (.act none (.px (some 17) (.mv (.v 12)))) <|
    .st (.act none (.px (some 18) (.bin .neq (.v 16) (.v 17)))) .done) K3_20) K3_18
@[simp] def W3_21 := @C.wpe _ _ K3_21.eq_1
def K3_22 : C := .seq (.pl <| .st (.ext 16 0) <|
    .st (.act none (.px (some 3) (.mv (.c (.bool false))))) .done) (.ret)
@[simp] def W3_22 := @C.wpe _ _ K3_22.eq_1
def K3_23 : C := .cond 16 (.v 17) K3_22 (.skip)
@[simp] def W3_23 := @C.wpe _ _ K3_23.eq_1
def K3_24 : C := .seq (.seq (.pl <| .st (.ext 16 2) <|
    .st (.act none (.px (some 16) (.mv (.v 13)))) <|
    .st (.act none (.px (some 17) (.bin .lss (.v 16) (.c (.int .i64 0))))) .done) K3_23) K3_21
@[simp] def W3_24 := @C.wpe _ _ K3_24.eq_1
def K3_25 : Pl := .st (.act none (.px (some 13) (.mv (.v 18)))) .done
@[simp] def W3_25 := @Pl.wpe _ _ K3_25.eq_1
def K3_26 : C := .seq (.pl <| .st (.ext 16 3) <|
    .st (.act none (.px (some 16) (.mv (.v 9)))) <|
    .st (.act none (.px (some 17) (.mv (.v 13)))) <|
    .st (.act none (.ex (some 18) (.call fn_laws_heldBoolS [.v 16, .v 17]))) K3_25) K3_24
@[simp] def W3_26 := @C.wpe _ _ K3_26.eq_1
def K3_27 : C := .seq (.pl <| .st (.ext 16 0) <|
    .st (.act none (.px (some 13) (.mv (.c (.int .i64 1))))) .done) K3_26
@[simp] def W3_27 := @C.wpe _ _ K3_27.eq_1
def K3_28 : Pl := .st (.act none (.px (some 12) (.mv (.v 18)))) .done
@[simp] def W3_28 := @Pl.wpe _ _ K3_28.eq_1
def K3_29 : C := .seq (.pl <| .st (.ext 16 3) <|
    .st (.act none (.px (some 16) (.mv (.v 9)))) <|
    .st (.act none (.px (some 17) (.mv (.v 12)))) <|
    .st (.act none (.ex (some 18) (.call fn_laws_markBoolS [.v 16, .v 17]))) K3_28) K3_27
@[simp] def W3_29 := @C.wpe _ _ K3_29.eq_1
def K3_30 : C := .seq (.pl <| .st (.ext 16 0) <|
    .st (.act none (.px (some 12) (.mv (.c (.int .i64 1))))) .done) K3_29
@[simp] def W3_30 := @C.wpe _ _ K3_30.eq_1
def K3_31 : C := .seq (.pl <| .st (.ext 16 0) <|
    .st (.act none (.px (some 3) (.mv (.c (.bool false))))) .done) (.ret)
@[simp] def W3_31 := @C.wpe _ _ K3_31.eq_1
def K3_32 : C := .cond 16 (.v 28) K3_31 (.skip)
@[simp] def W3_32 := @C.wpe _ _ K3_32.eq_1
def K3_33 : Pl := .st (.act (some (.v 18, false)) (.px (some 22) (.un .not (.v 21)))) <|
    .st (.act none (.px (some 23) (.pick (.v 18) (.c (.bool true)) (.v 22)))) <|
    .st (.act none (.px (some 24) (.mv (.v 23)))) <|
    .st (.act (some (.v 24, false)) (.px (some 25) (.mv (.v 10)))) <|
    .st (.act (some (.v 24, false)) (.px (some 26) (.mv (.v 6)))) <|
    .st (.act (some (.v 24, false)) (.px (some 27) (.eqb true (.v 25) (.v 26)))) <|
    .st (.act none (.px (some 28) (.pick (.v 24) (.c (.bool true)) (.v 27)))) .done
@[simp] def W3_33 := @Pl.wpe _ _ K3_33.eq_1
def K3_34 : C := .seq (.seq (.pl <| .st (.ext 16 13) <|
    .st (.act none (.px (some 16) (.mv (.v 11)))) <|
    .st (.act none (.px (some 17) (.bin .lss (.v 16) (.c (.int .i64 0))))) <|
    .st (.act none (.px (some 18) (.mv (.v 17)))) <|
    .st (.act (some (.v 18, false)) (.px (some 19) (.mv (.v 9)))) <|
    .st (.act (some (.v 18, false)) (.px (some 20) (.mv (.v 5)))) <|
    .st (.act (some (.v 18, false)) (.ex (some 21) (.call fn_laws_eqBoolS [.v 19, .v 20]))) K3_33) K3_32) K3_30
@[simp] def W3_34 := @C.wpe _ _ K3_34.eq_1
def K3_35 : Pl := .st (.act none (.px (some 11) (.mv (.v 18)))) .done
@[simp] def W3_35 := @Pl.wpe _ _ K3_35.eq_1
def K3_36 : C := .seq (.pl <| .st (.ext 16 3) <|
    .st (.act none (.px (some 16) (.mv (.v 8)))) <|
    .st (.act none (.px (some 17) (.mv (.v 11)))) <|
    .st (.act none (.ex (some 18) (.call fn_laws_markExprS [.v 16, .v 17]))) K3_35) K3_34
@[simp] def W3_36 := @C.wpe _ _ K3_36.eq_1
def K3_37 : Pl := .st (.act none (.px (some 11) (.mv (.v 18)))) .done
@[simp] def W3_37 := @Pl.wpe _ _ K3_37.eq_1
def K3_38 : C := .seq (.pl <| .st (.ext 16 3) <|
    .st (.act none (.pget (some 16) none 7 0 (some 2))) <|
    .st (.act none (.px (some 17) (.mv (.v 11)))) <|
    .st (.act none (.ex (some 18) (.call fn_laws_markSystem [.v 16, .v 17]))) K3_37) K3_36
@[simp] def W3_38 := @C.wpe _ _ K3_38.eq_1
def K3_39 : C := .seq (.pl <| .st (.ext 16 0) <|
    .st (.act none (.px (some 11) (.mv (.c (.int .i64 1))))) .done) K3_38
@[simp] def W3_39 := @C.wpe _ _ K3_39.eq_1
def K3_40 : C := .seq (.pl <| .st (.ext 16 0) <|
    .st (.act none (.px (some 3) (.mv (.c (.bool false))))) .done) (.ret)
@[simp] def W3_40 := @C.wpe _ _ K3_40.eq_1
def K3_41 : C := .cond 16 (.v 20) K3_40 (.skip)
@[simp] def W3_41 := @C.wpe _ _ K3_41.eq_1
def K3_42 : Pl := .st (.act none (.px (some 20) (.un .not (.v 19)))) .done
@[simp] def W3_42 := @Pl.wpe _ _ K3_42.eq_1
def K3_43 : Pl := .st (.act none (.ex (some 19) (.call fn_laws_eqExprS [.v 16, .v 18]))) K3_42
@[simp] def W3_43 := @Pl.wpe _ _ K3_43.eq_1
def K3_44 : C := .seq (.seq (.pl <| .st (.ext 16 5) <|
    .st (.act none (.px (some 16) (.mv (.v 8)))) <|
    .st (.act none (.px (some 17) (.mv (.v 1)))) <|
    .st (.act none (.ex (some 18) (.call fn_laws_toExprS [.v 17]))) K3_43) K3_41) K3_39
@[simp] def W3_44 := @C.wpe _ _ K3_44.eq_1
def K3_45 : C := .seq (.pl <| .st (.ext 16 0) <|
    .st (.act none (.px (some 3) (.mv (.c (.bool false))))) .done) (.ret)
@[simp] def W3_45 := @C.wpe _ _ K3_45.eq_1
def K3_46 : C := .cond 16 (.v 20) K3_45 (.skip)
@[simp] def W3_46 := @C.wpe _ _ K3_46.eq_1
def K3_47 : Pl := .st (.act none (.px (some 20) (.un .not (.v 19)))) .done
@[simp] def W3_47 := @Pl.wpe _ _ K3_47.eq_1
def K3_48 : Pl := .st (.act none (.ex (some 19) (.call fn_laws_eqSystem [.v 16, .v 18]))) K3_47
@[simp] def W3_48 := @Pl.wpe _ _ K3_48.eq_1
def K3_49 : C := .seq (.seq (.pl <| .st (.ext 16 5) <|
    .st (.act none (.pget (some 16) none 7 0 (some 2))) <|
    .st (.act none (.pget (some 17) none 2 0 (some 2))) <|
    .st (.act none (.ex (some 18) (.call fn_laws_toSystem [.v 17]))) K3_48) K3_46) K3_44
@[simp] def W3_49 := @C.wpe _ _ K3_49.eq_1
def K3_50 : C := .seq (.pl <| .st (.ext 16 0) <|
    .st (.act none (.px (some 3) (.mv (.c (.bool false))))) .done) (.ret)
@[simp] def W3_50 := @C.wpe _ _ K3_50.eq_1
def K3_51 : C := .cond 16 (.v 24) K3_50 (.skip)
@[simp] def W3_51 := @C.wpe _ _ K3_51.eq_1
def K3_52 : Pl := .st (.act none (.px (some 19) (.un .not (.v 18)))) <|
    .st (.act none (.px (some 20) (.mv (.v 19)))) <|
    .st (.act (some (.v 20, false)) (.px (some 21) (.mv (.v 10)))) <|
    .st (.act (some (.v 20, false)) (.px (some 22) (.mv (.v 6)))) <|
    .st (.act (some (.v 20, false)) (.px (some 23) (.eqb true (.v 21) (.v 22)))) <|
    .st (.act none (.px (some 24) (.pick (.v 20) (.c (.bool true)) (.v 23)))) .done
@[simp] def W3_52 := @Pl.wpe _ _ K3_52.eq_1
def K3_53 : C := .seq (.seq (.pl <| .st (.ext 16 9) <|
    .st (.act none (.px (some 16) (.mv (.v 9)))) <|
    .st (.act none (.px (some 17) (.mv (.v 5)))) <|
    .st (.act none (.ex (some 18) (.call fn_laws_eqBoolS [.v 16, .v 17]))) K3_52) K3_51) K3_49
@[simp] def W3_53 := @C.wpe _ _ K3_53.eq_1
def K3_54 : Pl := .st (.act none (.px (some 19) (.mv (.v 18)))) <|
    .st (.act none (.px (some 20) (.extract 0 (.v 19)))) <|
    .st (.act none (.px (some 21) (.extract 1 (.v 19)))) <|
    .st (.act none (.px (some 9) (.mv (.v 20)))) <|
    .st (.act none (.px (some 10) (.mv (.v 21)))) .done
@[simp] def W3_54 := @Pl.wpe _ _ K3_54.eq_1
def K3_55 : C := .seq (.pl <| .st (.ext 16 6) <|
    .st (.act none (.pget (some 16) none 7 0 (some 2))) <|
    .st (.act none (.px (some 17) (.mv (.v 8)))) <|
    .st (.act none (.ex (some 18) (.call fn_impl_RelevantVars [.v 16, .v 17]))) K3_54) K3_53
@[simp] def W3_55 := @C.wpe _ _ K3_55.eq_1
def K3_56 : Pl := .st (.act none (.px (some 8) (.mv (.v 17)))) .done
@[simp] def W3_56 := @Pl.wpe _ _ K3_56.eq_1
def K3_57 : C := .seq (.pl <| .st (.ext 16 2) <|
    .st (.act none (.px (some 16) (.mv (.v 1)))) <|
    .st (.act none (.ex (some 17) (.call fn_laws_toExprS [.v 16]))) K3_56) K3_55
@[simp] def W3_57 := @C.wpe _ _ K3_57.eq_1
def K3_58 : Pl := .st (.act none (.pnew 7 (.c (.agg #[.slice none 0 0, .slice none 0 0])) [])) <|
    .st (.act none (.pset none 7 0 2 (.v 17))) .done
@[simp] def W3_58 := @Pl.wpe _ _ K3_58.eq_1
def K3_59 : C := .seq (.pl <| .st (.ext 16 2) <|
    .st (.act none (.pget (some 16) none 2 0 (some 2))) <|
    .st (.act none (.ex (some 17) (.call fn_laws_toSystem [.v 16]))) K3_58) K3_57
@[simp] def W3_59 := @C.wpe _ _ K3_59.eq_1
def K3_60 : Pl := .st (.act none (.px (some 21) (.mv (.v 20)))) <|
    .st (.act none (.px (some 22) (.extract 0 (.v 21)))) <|
    .st (.act none (.px (some 23) (.extract 1 (.v 21)))) <|
    .st (.act none (.px (some 5) (.mv (.v 22)))) <|
    .st (.act none (.px (some 6) (.mv (.v 23)))) .done
@[simp] def W3_60 := @Pl.wpe _ _ K3_60.eq_1
def K3_61 : Pl := .st (.act none (.ex (some 20) (.call fn_spec_RelevantVars [.v 17, .v 19]))) K3_60
@[simp] def W3_61 := @Pl.wpe _ _ K3_61.eq_1
def K3_62 : Pl := .st (.act none (.px (some 18) (.mv (.v 1)))) <|
    .st (.act none (.ex (some 19) (.call fn_laws_toExprS [.v 18]))) K3_61
@[simp] def W3_62 := @Pl.wpe _ _ K3_62.eq_1
def K3_63 : C := .seq (.pl <| .st (.ext 16 8) <|
    .st (.act none (.pget (some 16) none 2 0 (some 2))) <|
    .st (.act none (.ex (some 17) (.call fn_laws_toSystem [.v 16]))) K3_62) K3_59
@[simp] def W3_63 := @C.wpe _ _ K3_63.eq_1
def K3_64 : C := .seq (.pl <| .st (.ext 16 0) <|
    .st (.act none (.px (some 3) (.mv (.c (.bool true))))) .done) (.ret)
@[simp] def W3_64 := @C.wpe _ _ K3_64.eq_1
def K3_65 : C := .cond 16 (.v 17) K3_64 (.skip)
@[simp] def W3_65 := @C.wpe _ _ K3_65.eq_1
def K3_66 : C := .seq (.seq (.pl <| .st (.ext 16 2) <|
    .st (.act none (.px (some 16) (.mv (.v 4)))) <|
    .st (.act none (.px (some 17) (.bin .lss (.v 16) (.c (.int .i64 0))))) .done) K3_65) K3_63
@[simp] def W3_66 := @C.wpe _ _ K3_66.eq_1
def K3_67 : Pl := .st (.act none (.px (some 4) (.mv (.v 18)))) .done
@[simp] def W3_67 := @Pl.wpe _ _ K3_67.eq_1
def K3_68 : C := .seq (.pl <| .st (.ext 16 3) <|
    .st (.act none (.px (some 16) (.mv (.v 1)))) <|
    .st (.act none (.px (some 17) (.mv (.v 4)))) <|
    .st (.act none (.ex (some 18) (.call fn_laws_szExprS [.v 16, .v 17]))) K3_67) K3_66
@[simp] def W3_68 := @C.wpe _ _ K3_68.eq_1
def K3_69 : C := .seq (.pl <| .st (.ext 16 0) <|
    .st (.act none (.px (some 3) (.mv (.c (.bool true))))) .done) (.ret)
@[simp] def W3_69 := @C.wpe _ _ K3_69.eq_1
def K3_70 : C := .cond 16 (.v 17) K3_69 (.skip)
@[simp] def W3_70 := @C.wpe _ _ K3_70.eq_1
def K3_71 : C := .seq (.seq (.pl <| .st (.ext 16 2) <|
    .st (.act none (.px (some 16) (.mv (.v 4)))) <|
    .st (.act none (.px (some 17) (.bin .lss (.v 16) (.c (.int .i64 0))))) .done) K3_70) K3_68
@[simp] def W3_71 := @C.wpe _ _ K3_71.eq_1
def K3_72 : Pl := .st (.act none (.px (some 4) (.mv (.v 18)))) .done
@[simp] def W3_72 := @Pl.wpe _ _ K3_72.eq_1
def K3_73 : C := .seq (.pl <| .st (.ext 16 3) <|
    .st (.act none (.pget (some 16) none 2 0 (some 2))) <|
    .st (.act none (.px (some 17) (.mv (.v 4)))) <|
    .st (.act none (.ex (some 18) (.call fn_laws_szSystem [.v 16, .v 17]))) K3_72) K3_71
@[simp] def W3_73 := @C.wpe _ _ K3_73.eq_1
def K3_74 : C := .seq (.pl <| .st (.ext 16 0) <|
    .st (.act none (.px (some 4) (.mv (.c (.int .i64 1048576))))) .done) K3_73
@[simp] def W3_74 := @C.wpe _ _ K3_74.eq_1
def B_laws_FnExactRelevantVars : C := .seq (.pl <| .st (.ext 16 0) <|
    .st (.act none (.pnew 2 (.v 0) [])) <|
    .st (.act none (.px (some 3) (.mv (.c (.bool false))))) .done) K3_74
@[simp] def WB_laws_FnExactRelevantVars := @C.wpe _ _ B_laws_FnExactRelevantVars.eq_1
def R_laws_FnExactRelevantVars : FIR := ⟨B_laws_FnExactRelevantVars, 16, [(3, none)]⟩
theorem IR_laws_FnExactRelevantVars : cfun Try.prog H_laws_FnExactRelevantVars Try.f3 = some R_laws_FnExactRelevantVars := by kernel_rfl
theorem EN_laws_FnExactRelevantVars {args : List Value} {h : Heap} {k : Value → Heap → Prop} (hargs : args.length = 2) (hw : B_laws_FnExactRelevantVars.wp Try.prog (retQ [(3, none)] k) (env0 args 16) h) : CallE Try.prog fn_laws_FnExactRelevantVars args h k := enter Try.func3 rfl IR_laws_FnExactRelevantVars hargs hw

def H_laws_eqBoolS : Hint := ⟨[(0, false), (1, false), (4, false), (5, false)], [[2]]⟩
def K17_1 : C := .seq (.pl <| .st (.ext 4 0) <|
    .st (.act none (.px (some 2) (.mv (.c (.bool true))))) .done) (.ret)
@[simp] def W17_1 := @C.wpe _ _ K17_1.eq_1
def K17_2 : C := .pl <| .st (.ext 4 2) <|
    .st (.act none (.px (some 4) (.mv (.v 3)))) <|
    .st (.act none (.px (some 5) (.bin .add (.v 4) (.c (.int .i64 1))))) <|
    .st (.act none (.px (some 3) (.mv (.v 5)))) .done
@[simp] def W17_2 := @C.wpe _ _ K17_2.eq_1
def K17_3 : C := .seq (.pl <| .st (.ext 4 0) <|
    .st (.act none (.px (some 2) (.mv (.c (.bool false))))) .done) (.ret)
@[simp] def W17_3 := @C.wpe _ _ K17_3.eq_1
def K17_4 : C := .cond 4 (.v 12) K17_3 (.skip)
@[simp] def W17_4 := @C.wpe _ _ K17_4.eq_1
def K17_5 : C := .seq (.block 1 (.seq (.pl <| .st (.ext 4 9) <|
    .st (.act none (.px (some 4) (.mv (.v 0)))) <|
    .st (.act none (.px (some 5) (.mv (.v 3)))) <|
    .st (.act none (.px (some 6) (.ia 1 (.v 4) (.v 5)))) <|
    .st (.act none (.ld (some 7) (.v 6) none)) <|
    .st (.act none (.px (some 8) (.mv (.v 1)))) <|
    .st (.act none (.px (some 9) (.mv (.v 3)))) <|
    .st (.act none (.px (some 10) (.ia 1 (.v 8) (.v 9)))) <|
    .st (.act none (.ld (some 11) (.v 10) none)) <|
    .st (.act none (.px (some 12) (.eqb true (.v 7) (.v 11)))) .done) K17_4)) K17_2
@[simp] def W17_5 := @C.wpe _ _ K17_5.eq_1
def K17_6 : C := .cond 4 (.v 7) (.skip) (.exit 0)
@[simp] def W17_6 := @C.wpe _ _ K17_6.eq_1
def K17_7 : C := .seq (.seq (.pl <| .st (.ext 4 4) <|
    .st (.act none (.px (some 4) (.mv (.v 3)))) <|
    .st (.act none (.px (some 5) (.mv (.v 0)))) <|
    .st (.act none (.px (some 6) (.lenV (.v 5)))) <|
    .st (.act none (.px (some 7) (.bin .lss (.v 4) (.v 6)))) .done) K17_6) K17_5
@[simp] def W17_7 := @C.wpe _ _ K17_7.eq_1
def K17_8 : C := .block 0 (.loop 4 [2] K17_7)
@[simp] def W17_8 := @C.wpe _ _ K17_8.eq_1
def K17_9 : C := .seq (.seq (.pl <| .st (.ext 4 0) <|
    .st (.act none (.px (some 3) (.mv (.c (.int .i64 0))))) .done) K17_8) K17_1
@[simp] def W17_9 := @C.wpe _ _ K17_9.eq_1
def K17_10 : C := .seq (.pl <| .st (.ext 4 0) <|
    .st (.act none (.px (some 2) (.mv (.c (.bool false))))) .done) (.ret)
@[simp] def W17_10 := @C.wpe _ _ K17_10.eq_1
def K17_11 : C := .cond 4 (.v 8) K17_10 (.skip)
@[simp] def W17_11 := @C.wpe _ _ K17_11.eq_1
def K17_12 : C := .seq (.seq (.pl <| .st (.ext 4 5) <|
    .st (.act none (.px (some 4) (.mv (.v 0)))) <|
    .st (.act none (.px (some 5) (.lenV (.v 4)))) <|
    .st (.act none (.px (some 6) (.mv (.v 1)))) <|
    .st (.act none (.px (some 7) (.lenV (.v 6)))) <|
    .st (.act none (.px (some 8) (.bin .neq (.v 5) (.v 7)))) .done) K17_11) K17_9
@[simp] def W17_12 := @C.wpe _ _ K17_12.eq_1
def B_laws_eqBoolS : C := .seq (.pl <| .st (.ext 4 0) <|
    .st (.act none (.px (some 2) (.mv (.c (.bool false))))) .done) K17_12
@[simp] def WB_laws_eqBoolS := @C.wpe _ _ B_laws_eqBoolS.eq_1
def R_laws_eqBoolS : FIR := ⟨B_laws_eqBoolS, 4, [(2, none)]⟩
theorem IR_laws_eqBoolS : cfun Try.prog H_laws_eqBoolS Try.f17 = some R_laws_eqBoolS := by kernel_rfl
theorem EN_laws_eqBoolS {args : List Value} {h : Heap} {k : Value → Heap → Prop} (hargs : args.length = 2) (hw : B_laws_eqBoolS.wp Try.prog (retQ [(2, none)] k) (env0 args 4) h) : CallE Try.prog fn_laws_eqBoolS args h k := enter Try.func17 rfl IR_laws_eqBoolS hargs hw

def H_laws_eqEdge : Hint := ⟨[(0, false), (1, false), (2, true), (3, true), (4, false)], []⟩
def K188_1 : C := .seq (.pl <| .st (.ext 5 0) <|
    .st (.act none (.px (some 4) (.mv (.c (.bool true))))) .done) (.ret)
@[simp] def W188_1 := @C.wpe _ _ K188_1.eq_1
def K188_2 : C := .seq (.pl <| .st (.ext 5 0) <|
    .st (.act none (.px (some 4) (.mv (.c (.bool false))))) .done) (.ret)
@[simp] def W188_2 := @C.wpe _ _ K188_2.eq_1
def K188_3 : C := .cond 5 (.v 9) K188_2 (.skip)
@[simp] def W188_3 := @C.wpe _ _ K188_3.eq_1
def K188_4 : C := .seq (.seq (.pl <| .st (.ext 5 5) <|
    .st (.act none (.als 5 none 2)) <|
    .st (.act none (.pget (some 6) (some 5) 2 9 none)) <|
    .st (.act none (.als 7 none 3)) <|
    .st (.act none (.pget (some 8) (some 7) 3 9 none)) <|
    .st (.act none (.px (some 9) (.bin .neq (.v 6) (.v 8)))) .done) K188_3) K188_1
@[simp] def W188_4 := @C.wpe _ _ K188_4.eq_1
def K188_5 : C := .seq (.pl <| .st (.ext 5 0) <|
    .st (.act none (.px (some 4) (.mv (.c (.bool false))))) .done) (.ret)
@[simp] def W188_5 := @C.wpe _ _ K188_5.eq_1
def K188_6 : C := .cond 5 (.v 10) K188_5 (.skip)
@[simp] def W188_6 := @C.wpe _ _ K188_6.eq_1
def K188_7 : Pl := .st (.act none (.px (some 10) (.un .not (.v 9)))) .done
@[simp] def W188_7 := @Pl.wpe _ _ K188_7.eq_1
def K188_8 : C := .seq (.seq (.pl <| .st (.ext 5 6) <|
    .st (.act none (.als 5 none 2)) <|
    .st (.act none (.pget (some 6) (some 5) 2 6 (some 3))) <|
    .st (.act none (.als 7 none 3)) <|
    .st (.act none (.pget (some 8) (some 7) 3 6 (some 3))) <|
    .st (.act none (.ex (some 9) (.call fn_laws_eqExpr [.v 6, .v 8]))) K188_7) K188_6) K188_4
@[simp] def W188_8 := @C.wpe _ _ K188_8.eq_1
def K188_9 : C := .seq (.pl <| .st (.ext 5 0) <|
    .st (.act none (.px (some 4) (.mv (.c (.bool false))))) .done) (.ret)
@[simp] def W188_9 := @C.wpe _ _ K188_9.eq_1
def K188_10 : C := .cond 5 (.v 9) K188_9 (.skip)
@[simp] def W188_10 := @C.wpe _ _ K188_10.eq_1
def K188_11 : C := .seq (.seq (.pl <| .st (.ext 5 5) <|
    .st (.act none (.als 5 none 2)) <|
    .st (.act none (.pget (some 6) (some 5) 2 5 none)) <|
    .st (.act none (.als 7 none 3)) <|
    .st (.act none (.pget (some 8) (some 7) 3 5 none)) <|
    .st (.act none (.px (some 9) (.bin .neq (.v 6) (.v 8)))) .done) K188_10) K188_8
@[simp] def W188_11 := @C.wpe _ _ K188_11.eq_1
def K188_12 : C := .seq (.pl <| .st (.ext 5 0) <|
    .st (.act none (.px (some 4) (.mv (.c (.bool false))))) .done) (.ret)
@[simp] def W188_12 := @C.wpe _ _ K188_12.eq_1
def K188_13 : C := .cond 5 (.v 10) K188_12 (.skip)
@[simp] def W188_13 := @C.wpe _ _ K188_13.eq_1
def K188_14 : Pl := .st (.act none (.px (some 10) (.un .not (.v 9)))) .done
@[simp] def W188_14 := @Pl.wpe _ _ K188_14.eq_1
def K188_15 : C := .seq (.seq (.pl <| .st (.ext 5 6) <|
    .st (.act none (.als 5 none 2)) <|
    .st (.act none (.pget (some 6) (some 5) 2 2 (some 3))) <|
    .st (.act none (.als 7 none 3)) <|
    .st (.act none (.pget (some 8) (some 7) 3 2 (some 3))) <|
    .st (.act none (.ex (some 9) (.call fn_laws_eqExpr [.v 6, .v 8]))) K188_14) K188_13) K188_11
@[simp] def W188_15 := @C.wpe _ _ K188_15.eq_1
def K188_16 : C := .seq (.pl <| .st (.ext 5 0) <|
    .st (.act none (.px (some 4) (.mv (.c (.bool false))))) .done) (.ret)
@[simp] def W188_16 := @C.wpe _ _ K188_16.eq_1
def K188_17 : C := .cond 5 (.v 9) K188_16 (.skip)
@[simp] def W188_17 := @C.wpe _ _ K188_17.eq_1
def K188_18 : C := .seq (.seq (.pl <| .st (.ext 5 5) <|
    .st (.act none (.als 5 none 2)) <|
    .st (.act none (.pget (some 6) (some 5) 2 1 none)) <|
    .st (.act none (.als 7 none 3)) <|
    .st (.act none (.pget (some 8) (some 7) 3 1 none)) <|
    .st (.act none (.px (some 9) (.bin .neq (.v 6) (.v 8)))) .done) K188_17) K188_15
@[simp] def W188_18 := @C.wpe _ _ K188_18.eq_1
def K188_19 : C := .seq (.pl <| .st (.ext 5 0) <|
    .st (.act none (.px (some 4) (.mv (.c (.bool false))))) .done) (.ret)
@[simp] def W188_19 := @C.wpe _ _ K188_19.eq_1
def K188_20 : C := .cond 5 (.v 9) K188_19 (.skip)
@[simp] def W188_20 := @C.wpe _ _ K188_20.eq_1
def K188_21 : C := .seq (.seq (.pl <| .st (.ext 5 5) <|
    .st (.act none (.als 5 none 2)) <|
    .st (.act none (.pget (some 6) (some 5) 2 0 none)) <|
    .st (.act none (.als 7 none 3)) <|
    .st (.act none (.pget (some 8) (some 7) 3 0 none)) <|
    .st (.act none (.px (some 9) (.bin .neq (.v 6) (.v 8)))) .done) K188_20) K188_18
@[simp] def W188_21 := @C.wpe _ _ K188_21.eq_1
def B_laws_eqEdge : C := .seq (.pl <| .st (.ext 5 0) <|
    .st (.act none (.pnew 2 (.v 0) [])) <|
    .st (.act none (.pnew 3 (.v 1) [])) <|
    .st (.act none (.px (some 4) (.mv (.c (.bool false))))) .done) K188_21
@[simp] def WB_laws_eqEdge := @C.wpe _ _ B_laws_eqEdge.eq_1
def R_laws_eqEdge : FIR := ⟨B_laws_eqEdge, 5, [(4, none)]⟩
theorem IR_laws_eqEdge : cfun Try.prog H_laws_eqEdge Try.f188 = some R_laws_eqEdge := by kernel_rfl
theorem EN_laws_eqEdge {args : List Value} {h : Heap} {k : Value → Heap → Prop} (hargs : args.length = 2) (hw : B_laws_eqEdge.wp Try.prog (retQ [(4, none)] k) (env0 args 5) h) : CallE Try.prog fn_laws_eqEdge args h k := enter Try.func188 rfl IR_laws_eqEdge hargs hw

def H_laws_eqEdgeS : Hint := ⟨[(0, false), (1, false), (4, false), (5, false)], [[2]]⟩
def K159_1 : C := .seq (.pl <| .st (.ext 4 0) <|
    .st (.act none (.px (some 2) (.mv (.c (.bool true))))) .done) (.ret)
@[simp] def W159_1 := @C.wpe _ _ K159_1.eq_1
def K159_2 : C := .pl <| .st (.ext 4 2) <|
    .st (.act none (.px (some 4) (.mv (.v 3)))) <|
    .st (.act none (.px (some 5) (.bin .add (.v 4) (.c (.int .i64 1))))) <|
    .st (.act none (.px (some 3) (.mv (.v 5)))) .done
@[simp] def W159_2 := @C.wpe _ _ K159_2.eq_1
def K159_3 : C := .seq (.pl <| .st (.ext 4 0) <|
    .st (.act none (.px (some 2) (.mv (.c (.bool false))))) .done) (.ret)
@[simp] def W159_3 := @C.wpe _ _ K159_3.eq_1
def K159_4 : C := .cond 4 (.v 13) K159_3 (.skip)
@[simp] def W159_4 := @C.wpe _ _ K159_4.eq_1
def K159_5 : Pl := .st (.act none (.px (some 13) (.un .not (.v 12)))) .done
@[simp] def W159_5 := @Pl.wpe _ _ K159_5.eq_1
def K159_6 : C := .seq (.block 1 (.seq (.pl <| .st (.ext 4 10) <|
    .st (.act none (.px (some 4) (.mv (.v 0)))) <|
    .st (.act none (.px (some 5) (.mv (.v 3)))) <|
    .st (.act none (.px (some 6) (.ia 10 (.v 4) (.v 5)))) <|
    .st (.act none (.ld (some 7) (.v 6) (some 10))) <|
    .st (.act none (.px (some 8) (.mv (.v 1)))) <|
    .st (.act none (.px (some 9) (.mv (.v 3)))) <|
    .st (.act none (.px (some 10) (.ia 10 (.v 8) (.v 9)))) <|
    .st (.act none (.ld (some 11) (.v 10) (some 10))) <|
    .st (.act none (.ex (some 12) (.call fn_laws_eqEdge [.v 7, .v 11]))) K159_5) K159_4)) K159_2
@[simp] def W159_6 := @C.wpe _ _ K159_6.eq_1
def K159_7 : C := .cond 4 (.v 7) (.skip) (.exit 0)
@[simp] def W159_7 := @C.wpe _ _ K159_7.eq_1
def K159_8 : C := .seq (.seq (.pl <| .st (.ext 4 4) <|
    .st (.act none (.px (some 4) (.mv (.v 3)))) <|
    .st (.act none (.px (some 5) (.mv (.v 0)))) <|
    .st (.act none (.px (some 6) (.lenV (.v 5)))) <|
    .st (.act none (.px (some 7) (.bin .lss (.v 4) (.v 6)))) .done) K159_7) K159_6
@[simp] def W159_8 := @C.wpe _ _ K159_8.eq_1
def K159_9 : C := .block 0 (.loop 4 [2] K159_8)
@[simp] def W159_9 := @C.wpe _ _ K159_9.eq_1
def K159_10 : C := .seq (.seq (.pl <| .st (.ext 4 0) <|
    .st (.act none (.px (some 3) (.mv (.c (.int .i64 0))))) .done) K159_9) K159_1
@[simp] def W159_10 := @C.wpe _ _ K159_10.eq_1
def K159_11 : C := .seq (.pl <| .st (.ext 4 0) <|
    .st (.act none (.px (some 2) (.mv (.c (.bool false))))) .done) (.ret)
@[simp] def W159_11 := @C.wpe _ _ K159_11.eq_1
def K159_12 : C := .cond 4 (.v 8) K159_11 (.skip)
@[simp] def W159_12 := @C.wpe _ _ K159_12.eq_1
def K159_13 : C := .seq (.seq (.pl <| .st (.ext 4 5) <|
    .st (.act none (.px (some 4) (.mv (.v 0)))) <|
    .st (.act none (.px (some 5) (.lenV (.v 4)))) <|
    .st (.act none (.px (some 6) (.mv (.v 1)))) <|
    .st (.act none (.px (some 7) (.lenV (.v 6)))) <|
    .st (.act none (.px (some 8) (.bin .neq (.v 5) (.v 7)))) .done) K159_12) K159_10
@[simp] def W159_13 := @C.wpe _ _ K159_13.eq_1
def B_laws_eqEdgeS : C := .seq (.pl <| .st (.ext 4 0) <|
    .st (.act none (.px (some 2) (.mv (.c (.bool false))))) .done) K159_13
@[simp] def WB_laws_eqEdgeS := @C.wpe _ _ B_laws_eqEdgeS.eq_1
def R_laws_eqEdgeS : FIR := ⟨B_laws_eqEdgeS, 4, [(2, none)]⟩
theorem IR_laws_eqEdgeS : cfun Try.prog H_laws_eqEdgeS Try.f159 = some R_laws_eqEdgeS := by kernel_rfl
theorem EN_laws_eqEdgeS {args : List Value} {h : Heap} {k : Value → Heap → Prop} (hargs : args.length = 2) (hw : B_laws_eqEdgeS.wp Try.prog (retQ [(2, none)] k) (env0 args 4) h) : CallE Try.prog fn_laws_eqEdgeS args h k := enter Try.func159 rfl IR_laws_eqEdgeS hargs hw

def H_laws_eqExpr : Hint := ⟨[(0, false), (1, false), (2, true), (3, true), (4, false)], []⟩
def K69_1 : C := .seq (.pl <| .st (.ext 5 0) <|
    .st (.act none (.px (some 4) (.mv (.c (.bool true))))) .done) (.ret)
@[simp] def W69_1 := @C.wpe _ _ K69_1.eq_1
def K69_2 : C := .seq (.pl <| .st (.ext 5 0) <|
    .st (.act none (.px (some 4) (.mv (.c (.bool false))))) .done) (.ret)
@[simp] def W69_2 := @C.wpe _ _ K69_2.eq_1
def K69_3 : C := .cond 5 (.v 10) K69_2 (.skip)
@[simp] def W69_3 := @C.wpe _ _ K69_3.eq_1
def K69_4 : Pl := .st (.act none (.px (some 10) (.un .not (.v 9)))) .done
@[simp] def W69_4 := @Pl.wpe _ _ K69_4.eq_1
def K69_5 : C := .seq (.seq (.pl <| .st (.ext 5 6) <|
    .st (.act none (.als 5 none 2)) <|
    .st (.act none (.pget (some 6) (some 5) 2 2 none)) <|
    .st (.act none (.als 7 none 3)) <|
    .st (.act none (.pget (some 8) (some 7) 3 2 none)) <|
    .st (.act none (.ex (some 9) (.call fn_laws_eqExprS [.v 6, .v 8]))) K69_4) K69_3) K69_1
@[simp] def W69_5 := @C.wpe _ _ K69_5.eq_1
def K69_6 : C := .seq (.pl <| .st (.ext 5 0) <|
    .st (.act none (.px (some 4) (.mv (.c (.bool false))))) .done) (.ret)
@[simp] def W69_6 := @C.wpe _ _ K69_6.eq_1
def K69_7 : C := .cond 5 (.v 9) K69_6 (.skip)
@[simp] def W69_7 := @C.wpe _ _ K69_7.eq_1
def K69_8 : C := .seq (.seq (.pl <| .st (.ext 5 5) <|
    .st (.act none (.als 5 none 2)) <|
    .st (.act none (.pget (some 6) (some 5) 2 1 none)) <|
    .st (.act none (.als 7 none 3)) <|
    .st (.act none (.pget (some 8) (some 7) 3 1 none)) <|
    .st (.act none (.px (some 9) (.bin .neq (.v 6) (.v 8)))) .done) K69_7) K69_5
@[simp] def W69_8 := @C.wpe _ _ K69_8.eq_1
def K69_9 : C := .seq (.pl <| .st (.ext 5 0) <|
    .st (.act none (.px (some 4) (.mv (.c (.bool false))))) .done) (.ret)
@[simp] def W69_9 := @C.wpe _ _ K69_9.eq_1
def K69_10 : C := .cond 5 (.v 9) K69_9 (.skip)
@[simp] def W69_10 := @C.wpe _ _ K69_10.eq_1
def K69_11 : C := .seq (.seq (.pl <| .st (.ext 5 5) <|
    .st (.act none (.als 5 none 2)) <|
    .st (.act none (.pget (some 6) (some 5) 2 0 none)) <|
    .st (.act none (.als 7 none 3)) <|
    .st (.act none (.pget (some 8) (some 7) 3 0 none)) <|
    .st (.act none (.px (some 9) (.bin .neq (.v 6) (.v 8)))) .done) K69_10) K69_8
@[simp] def W69_11 := @C.wpe _ _ K69_11.eq_1
def B_laws_eqExpr : C := .seq (.pl <| .st (.ext 5 0) <|
    .st (.act none (.pnew 2 (.v 0) [])) <|
    .st (.act none (.pnew 3 (.v 1) [])) <|
    .st (.act none (.px (some 4) (.mv (.c (.bool false))))) .done) K69_11
@[simp] def WB_laws_eqExpr := @C.wpe _ _ B_laws_eqExpr.eq_1
def R_laws_eqExpr : FIR := ⟨B_laws_eqExpr, 5, [(4, none)]⟩
theorem IR_laws_eqExpr : cfun Try.prog H_laws_eqExpr Try.f69 = some R_laws_eqExpr := by kernel_rfl
theorem EN_laws_eqExpr {args : List Value} {h : Heap} {k : Value → Heap → Prop} (hargs : args.length = 2) (hw : B_laws_eqExpr.wp Try.prog (retQ [(4, none)] k) (env0 args 5) h) : CallE Try.prog fn_laws_eqExpr args h k := enter Try.func69 rfl IR_laws_eqExpr hargs hw

def H_laws_eqExprS : Hint := ⟨[(0, false), (1, false), (4, false), (5, false)], [[2]]⟩
def K19_1 : C := .seq (.pl <| .st (.ext 4 0) <|
    .st (.act none (.px (some 2) (.mv (.c (.bool true))))) .done) (.ret)
@[simp] def W19_1 := @C.wpe _ _ K19_1.eq_1
def K19_2 : C := .pl <| .st (.ext 4 2) <|
    .st (.act none (.px (some 4) (.mv (.v 3)))) <|
    .st (.act none (.px (some 5) (.bin .add (.v 4) (.c (.int .i64 1))))) <|
    .st (.act none (.px (some 3) (.mv (.v 5)))) .done
@[simp] def W19_2 := @C.wpe _ _ K19_2.eq_1
def K19_3 : C := .seq (.pl <| .st (.ext 4 0) <|
    .st (.act none (.px (some 2) (.mv (.c (.bool false))))) .done) (.ret)
@[simp] def W19_3 := @C.wpe _ _ K19_3.eq_1
def K19_4 : C := .cond 4 (.v 13) K19_3 (.skip)
@[simp] def W19_4 := @C.wpe _ _ K19_4.eq_1
def K19_5 : Pl := .st (.act none (.px (some 13) (.un .not (.v 12)))) .done
@[simp] def W19_5 := @Pl.wpe _ _ K19_5.eq_1
def K19_6 : C := .seq (.block 1 (.seq (.pl <| .st (.ext 4 10) <|
    .st (.act none (.px (some 4) (.mv (.v 0)))) <|
    .st (.act none (.px (some 5) (.mv (.v 3)))) <|
    .st (.act none (.px (some 6) (.ia 3 (.v 4) (.v 5)))) <|
    .st (.act none (.ld (some 7) (.v 6) (some 3))) <|
    .st (.act none (.px (some 8) (.mv (.v 1)))) <|
    .st (.act none (.px (some 9) (.mv (.v 3)))) <|
    .st (.act none (.px (some 10) (.ia 3 (.v 8) (.v 9)))) <|
    .st (.act none (.ld (some 11) (.v 10) (some 3))) <|
    .st (.act none (.ex (some 12) (.call fn_laws_eqExpr [.v 7, .v 11]))) K19_5) K19_4)) K19_2
@[simp] def W19_6 := @C.wpe _ _ K19_6.eq_1
def K19_7 : C := .cond 4 (.v 7) (.skip) (.exit 0)
@[simp] def W19_7 := @C.wpe _ _ K19_7.eq_1
def K19_8 : C := .seq (.seq (.pl <| .st (.ext 4 4) <|
    .st (.act none (.px (some 4) (.mv (.v 3)))) <|
    .st (.act none (.px (some 5) (.mv (.v 0)))) <|
    .st (.act none (.px (some 6) (.lenV (.v 5)))) <|
    .st (.act none (.px (some 7) (.bin .lss (.v 4) (.v 6)))) .done) K19_7) K19_6
@[simp] def W19_8 := @C.wpe _ _ K19_8.eq_1
def K19_9 : C := .block 0 (.loop 4 [2] K19_8)
@[simp] def W19_9 := @C.wpe _ _ K19_9.eq_1
def K19_10 : C := .seq (.seq (.pl <| .st (.ext 4 0) <|
    .st (.act none (.px (some 3) (.mv (.c (.int .i64 0))))) .done) K19_9) K19_1
@[simp] def W19_10 := @C.wpe _ _ K19_10.eq_1
def K19_11 : C := .seq (.pl <| .st (.ext 4 0) <|
    .st (.act none (.px (some 2) (.mv (.c (.bool false))))) .done) (.ret)
@[simp] def W19_11 := @C.wpe _ _ K19_11.eq_1
def K19_12 : C := .cond 4 (.v 8) K19_11 (.skip)
@[simp] def W19_12 := @C.wpe _ _ K19_12.eq_1
def K19_13 : C := .seq (.seq (.pl <| .st (.ext 4 5) <|
    .st (.act none (.px (some 4) (.mv (.v 0)))) <|
    .st (.act none (.px (some 5) (.lenV (.v 4)))) <|
    .st (.act none (.px (some 6) (.mv (.v 1)))) <|
    .st (.act none (.px (some 7) (.lenV (.v 6)))) <|
    .st (.act none (.px (some 8) (.bin .neq (.v 5) (.v 7)))) .done) K19_12) K19_10
@[simp] def W19_13 := @C.wpe _ _ K19_13.eq_1
def B_laws_eqExprS : C := .seq (.pl <| .st (.ext 4 0) <|
    .st (.act none (.px (some 2) (.mv (.c (.bool false))))) .done) K19_13
@[simp] def WB_laws_eqExprS := @C.wpe _ _ B_laws_eqExprS.eq_1
def R_laws_eqExprS : FIR := ⟨B_laws_eqExprS, 4, [(2, none)]⟩
theorem IR_laws_eqExprS : cfun Try.prog H_laws_eqExprS Try.f19 = some R_laws_eqExprS := by kernel_rfl
theorem EN_laws_eqExprS {args : List Value} {h : Heap} {k : Value → Heap → Prop} (hargs : args.length = 2) (hw : B_laws_eqExprS.wp Try.prog (retQ [(2, none)] k) (env0 args 4) h) : CallE Try.prog fn_laws_eqExprS args h k := enter Try.func19 rfl IR_laws_eqExprS hargs hw

def H_laws_eqIntS : Hint := ⟨[(0, false), (1, false), (4, false), (5, false)], [[2]]⟩
def K28_1 : C := .seq (.pl <| .st (.ext 4 0) <|
    .st (.act none (.px (some 2) (.mv (.c (.bool true))))) .done) (.ret)
@[simp] def W28_1 := @C.wpe _ _ K28_1.eq_1
def K28_2 : C := .pl <| .st (.ext 4 2) <|
    .st (.act none (.px (some 4) (.mv (.v 3)))) <|
    .st (.act none (.px (some 5) (.bin .add (.v 4) (.c (.int .i64 1))))) <|
    .st (.act none (.px (some 3) (.mv (.v 5)))) .done
@[simp] def W28_2 := @C.wpe _ _ K28_2.eq_1
def K28_3 : C := .seq (.pl <| .st (.ext 4 0) <|
    .st (.act none (.px (some 2) (.mv (.c (.bool false))))) .done) (.ret)
@[simp] def W28_3 := @C.wpe _ _ K28_3.eq_1
def K28_4 : C := .cond 4 (.v 12) K28_3 (.skip)
@[simp] def W28_4 := @C.wpe _ _ K28_4.eq_1
def K28_5 : C := .seq (.block 1 (.seq (.pl <| .st (.ext 4 9) <|
    .st (.act none (.px (some 4) (.mv (.v 0)))) <|
    .st (.act none (.px (some 5) (.mv (.v 3)))) <|
    .st (.act none (.px (some 6) (.ia 1 (.v 4) (.v 5)))) <|
    .st (.act none (.ld (some 7) (.v 6) none)) <|
    .st (.act none (.px (some 8) (.mv (.v 1)))) <|
    .st (.act none (.px (some 9) (.mv (.v 3)))) <|
    .st (.act none (.px (some 10) (.ia 1 (.v 8) (.v 9)))) <|
    .st (.act none (.ld (some 11) (.v 10) none)) <|
    .st (.act none (.px (some 12) (.bin .neq (.v 7) (.v 11)))) .done) K28_4)) K28_2
@[simp] def W28_5 := @C.wpe _ _ K28_5.eq_1
def K28_6 : C := .cond 4 (.v 7) (.skip) (.exit 0)
@[simp] def W28_6 := @C.wpe _ _ K28_6.eq_1
def K28_7 : C := .seq (.seq (.pl <| .st (.ext 4 4) <|
    .st (.act none (.px (some 4) (.mv (.v 3)))) <|
    .st (.act none (.px (some 5) (.mv (.v 0)))) <|
    .st (.act none (.px (some 6) (.lenV (.v 5)))) <|
    .st (.act none (.px (some 7) (.bin .lss (.v 4) (.v 6)))) .done) K28_6) K28_5
@[simp] def W28_7 := @C.wpe _ _ K28_7.eq_1
def K28_8 : C := .block 0 (.loop 4 [2] K28_7)
@[simp] def W28_8 := @C.wpe _ _ K28_8.eq_1
def K28_9 : C := .seq (.seq (.pl <| .st (.ext 4 0) <|
    .st (.act none (.px (some 3) (.mv (.c (.int .i64 0))))) .done) K28_8) K28_1
@[simp] def W28_9 := @C.wpe _ _ K28_9.eq_1
def K28_10 : C := .seq (.pl <| .st (.ext 4 0) <|
    .st (.act none (.px (some 2) (.mv (.c (.bool false))))) .done) (.ret)
@[simp] def W28_10 := @C.wpe _ _ K28_10.eq_1
def K28_11 : C := .cond 4 (.v 8) K28_10 (.skip)
@[simp] def W28_11 := @C.wpe _ _ K28_11.eq_1
def K28_12 : C := .seq (.seq (.pl <| .st (.ext 4 5) <|
    .st (.act none (.px (some 4) (.mv (.v 0)))) <|
    .st (.act none (.px (some 5) (.lenV (.v 4)))) <|
    .st (.act none (.px (some 6) (.mv (.v 1)))) <|
    .st (.act none (.px (some 7) (.lenV (.v 6)))) <|
    .st (.act none (.px (some 8) (.bin .neq (.v 5) (.v 7)))) .done) K28_11) K28_9
@[simp] def W28_12 := @C.wpe _ _ K28_12.eq_1
def B_laws_eqIntS : C := .seq (.pl <| .st (.ext 4 0) <|
    .st (.act none (.px (some 2) (.mv (.c (.bool false))))) .done) K28_12
@[simp] def WB_laws_eqIntS := @C.wpe _ _ B_laws_eqIntS.eq_1
def R_laws_eqIntS : FIR := ⟨B_laws_eqIntS, 4, [(2, none)]⟩
theorem IR_laws_eqIntS : cfun Try.prog H_laws_eqIntS Try.f28 = some R_laws_eqIntS := by kernel_rfl
theorem EN_laws_eqIntS {args : List Value} {h : Heap} {k : Value → Heap → Prop} (hargs : args.length = 2) (hw : B_laws_eqIntS.wp Try.prog (retQ [(2, none)] k) (env0 args 4) h) : CallE Try.prog fn_laws_eqIntS args h k := enter Try.func28 rfl IR_laws_eqIntS hargs hw

def H_laws_eqProcess : Hint := ⟨[(0, false), (1, false), (2, true), (3, true), (4, false)], []⟩
def K121_1 : C := .seq (.pl <| .st (.ext 5 0) <|
    .st (.act none (.px (some 4) (.mv (.c (.bool true))))) .done) (.ret)
@[simp] def W121_1 := @C.wpe _ _ K121_1.eq_1
def K121_2 : C := .seq (.pl <| .st (.ext 5 0) <|
    .st (.act none (.px (some 4) (.mv (.c (.bool false))))) .done) (.ret)
@[simp] def W121_2 := @C.wpe _ _ K121_2.eq_1
def K121_3 : C := .cond 5 (.v 10) K121_2 (.skip)
@[simp] def W121_3 := @C.wpe _ _ K121_3.eq_1
def K121_4 : Pl := .st (.act none (.px (some 10) (.un .not (.v 9)))) .done
@[simp] def W121_4 := @Pl.wpe _ _ K121_4.eq_1
def K121_5 : C := .seq (.seq (.pl <| .st (.ext 5 6) <|
    .st (.act none (.als 5 none 2)) <|
    .st (.act none (.pget (some 6) (some 5) 2 1 none)) <|
    .st (.act none (.als 7 none 3)) <|
    .st (.act none (.pget (some 8) (some 7) 3 1 none)) <|
    .st (.act none (.ex (some 9) (.call fn_laws_eqEdgeS [.v 6, .v 8]))) K121_4) K121_3) K121_1
@[simp] def W121_5 := @C.wpe _ _ K121_5.eq_1
def K121_6 : C := .seq (.pl <| .st (.ext 5 0) <|
    .st (.act none (.px (some 4) (.mv (.c (.bool false))))) .done) (.ret)
@[simp] def W121_6 := @C.wpe _ _ K121_6.eq_1
def K121_7 : C := .cond 5 (.v 9) K121_6 (.skip)
@[simp] def W121_7 := @C.wpe _ _ K121_7.eq_1
def K121_8 : C := .seq (.seq (.pl <| .st (.ext 5 5) <|
    .st (.act none (.als 5 none 2)) <|
    .st (.act none (.pget (some 6) (some 5) 2 0 none)) <|
    .st (.act none (.als 7 none 3)) <|
    .st (.act none (.pget (some 8) (some 7) 3 0 none)) <|
    .st (.act none (.px (some 9) (.bin .neq (.v 6) (.v 8)))) .done) K121_7) K121_5
@[simp] def W121_8 := @C.wpe _ _ K121_8.eq_1
def B_laws_eqProcess : C := .seq (.pl <| .st (.ext 5 0) <|
    .st (.act none (.pnew 2 (.v 0) [])) <|
    .st (.act none (.pnew 3 (.v 1) [])) <|
    .st (.act none (.px (some 4) (.mv (.c (.bool false))))) .done) K121_8
@[simp] def WB_laws_eqProcess := @C.wpe _ _ B_laws_eqProcess.eq_1
def R_laws_eqProcess : FIR := ⟨B_laws_eqProcess, 5, [(4, none)]⟩
theorem IR_laws_eqProcess : cfun Try.prog H_laws_eqProcess Try.f121 = some R_laws_eqProcess := by kernel_rfl
theorem EN_laws_eqProcess {args : List Value} {h : Heap} {k : Value → Heap → Prop} (hargs : args.length = 2) (hw : B_laws_eqProcess.wp Try.prog (retQ [(4, none)] k) (env0 args 5) h) : CallE Try.prog fn_laws_eqProcess args h k := enter Try.func121 rfl IR_laws_eqProcess hargs hw

def H_laws_eqProcessS : Hint := ⟨[(0, false), (1, false), (4, false), (5, false)], [[2]]⟩
def K68_1 : C := .seq (.pl <| .st (.ext 4 0) <|
    .st (.act none (.px (some 2) (.mv (.c (.bool true))))) .done) (.ret)
@[simp] def W68_1 := @C.wpe _ _ K68_1.eq_1
def K68_2 : C := .pl <| .st (.ext 4 2) <|
    .st (.act none (.px (some 4) (.mv (.v 3)))) <|
    .st (.act none (.px (some 5) (.bin .add (.v 4) (.c (.int .i64 1))))) <|
    .st (.act none (.px (some 3) (.mv (.v 5)))) .done
@[simp] def W68_2 := @C.wpe _ _ K68_2.eq_1
def K68_3 : C := .seq (.pl <| .st (.ext 4 0) <|
    .st (.act none (.px (some 2) (.mv (.c (.bool false))))) .done) (.ret)
@[simp] def W68_3 := @C.wpe _ _ K68_3.eq_1
def K68_4 : C := .cond 4 (.v 13) K68_3 (.skip)
@[simp] def W68_4 := @C.wpe _ _ K68_4.eq_1
def K68_5 : Pl := .st (.act none (.px (some 13) (.un .not (.v 12)))) .done
@[simp] def W68_5 := @Pl.wpe _ _ K68_5.eq_1
def K68_6 : C := .seq (.block 1 (.seq (.pl <| .st (.ext 4 10) <|
    .st (.act none (.px (some 4) (.mv (.v 0)))) <|
    .st (.act none (.px (some 5) (.mv (.v 3)))) <|
    .st (.act none (.px (some 6) (.ia 2 (.v 4) (.v 5)))) <|
    .st (.act none (.ld (some 7) (.v 6) (some 2))) <|
    .st (.act none (.px (some 8) (.mv (.v 1)))) <|
    .st (.act none (.px (some 9) (.mv (.v 3)))) <|
    .st (.act none (.px (some 10) (.ia 2 (.v 8) (.v 9)))) <|
    .st (.act none (.ld (some 11) (.v 10) (some 2))) <|
    .st (.act none (.ex (some 12) (.call fn_laws_eqProcess [.v 7, .v 11]))) K68_5) K68_4)) K68_2
@[simp] def W68_6 := @C.wpe _ _ K68_6.eq_1
def K68_7 : C := .cond 4 (.v 7) (.skip) (.exit 0)
@[simp] def W68_7 := @C.wpe _ _ K68_7.eq_1
def K68_8 : C := .seq (.seq (.pl <| .st (.ext 4 4) <|
    .st (.act none (.px (some 4) (.mv (.v 3)))) <|
    .st (.act none (.px (some 5) (.mv (.v 0)))) <|
    .st (.act none (.px (some 6) (.lenV (.v 5)))) <|
    .st (.act none (.px (some 7) (.bin .lss (.v 4) (.v 6)))) .done) K68_7) K68_6
@[simp] def W68_8 := @C.wpe _ _ K68_8.eq_1
def K68_9 : C := .block 0 (.loop 4 [2] K68_8)
@[simp] def W68_9 := @C.wpe _ _ K68_9.eq_1
def K68_10 : C := .seq (.seq (.pl <| .st (.ext 4 0) <|
    .st (.act none (.px (some 3) (.mv (.c (.int .i64 0))))) .done) K68_9) K68_1
@[simp] def W68_10 := @C.wpe _ _ K68_10.eq_1
def K68_11 : C := .seq (.pl <| .st (.ext 4 0) <|
    .st (.act none (.px (some 2) (.mv (.c (.bool false))))) .done) (.ret)
@[simp] def W68_11 := @C.wpe _ _ K68_11.eq_1
def K68_12 : C := .cond 4 (.v 8) K68_11 (.skip)
@[simp] def W68_12 := @C.wpe _ _ K68_12.eq_1
def K68_13 : C := .seq (.seq (.pl <| .st (.ext 4 5) <|
    .st (.act none (.px (some 4) (.mv (.v 0)))) <|
    .st (.act none (.px (some 5) (.lenV (.v 4)))) <|
    .st (.act none (.px (some 6) (.mv (.v 1)))) <|
    .st (.act none (.px (some 7) (.lenV (.v 6)))) <|
    .st (.act none (.px (some 8) (.bin .neq (.v 5) (.v 7)))) .done) K68_12) K68_10
@[simp] def W68_13 := @C.wpe _ _ K68_13.eq_1
def B_laws_eqProcessS : C := .seq (.pl <| .st (.ext 4 0) <|
    .st (.act none (.px (some 2) (.mv (.c (.bool false))))) .done) K68_13
@[simp] def WB_laws_eqProcessS := @C.wpe _ _ B_laws_eqProcessS.eq_1
def R_laws_eqProcessS : FIR := ⟨B_laws_eqProcessS, 4, [(2, none)]⟩
theorem IR_laws_eqProcessS : cfun Try.prog H_laws_eqProcessS Try.f68 = some R_laws_eqProcessS := by kernel_rfl
theorem EN_laws_eqProcessS {args : List Value} {h : Heap} {k : Value → Heap → Prop} (hargs : args.length = 2) (hw : B_laws_eqProcessS.wp Try.prog (retQ [(2, none)] k) (env0 args 4) h) : CallE Try.prog fn_laws_eqProcessS args h k := enter Try.func68 rfl IR_laws_eqProcessS hargs hw

def H_laws_eqSystem : Hint := ⟨[(0, false), (1, false), (2, true), (3, true), (4, false)], []⟩
def K18_1 : C := .seq (.pl <| .st (.ext 5 0) <|
    .st (.act none (.px (some 4) (.mv (.c (.bool true))))) .done) (.ret)
@[simp] def W18_1 := @C.wpe _ _ K18_1.eq_1
def K18_2 : C := .seq (.pl <| .st (.ext 5 0) <|
    .st (.act none (.px (some 4) (.mv (.c (.bool false))))) .done) (.ret)
@[simp] def W18_2 := @C.wpe _ _ K18_2.eq_1
def K18_3 : C := .cond 5 (.v 10) K18_2 (.skip)
@[simp] def W18_3 := @C.wpe _ _ K18_3.eq_1
def K18_4 : Pl := .st (.act none (.px (some 10) (.un .not (.v 9)))) .done
@[simp] def W18_4 := @Pl.wpe _ _ K18_4.eq_1
def K18_5 : C := .seq (.seq (.pl <| .st (.ext 5 6) <|
    .st (.act none (.als 5 none 2)) <|
    .st (.act none (.pget (some 6) (some 5) 2 1 none)) <|
    .st (.act none (.als 7 none 3)) <|
    .st (.act none (.pget (some 8) (some 7) 3 1 none)) <|
    .st (.act none (.ex (some 9) (.call fn_laws_eqProcessS [.v 6, .v 8]))) K18_4) K18_3) K18_1
@[simp] def W18_5 := @C.wpe _ _ K18_5.eq_1
def K18_6 : C := .seq (.pl <| .st (.ext 5 0) <|
    .st (.act none (.px (some 4) (.mv (.c (.bool false))))) .done) (.ret)
@[simp] def W18_6 := @C.wpe _ _ K18_6.eq_1
def K18_7 : C := .cond 5 (.v 10) K18_6 (.skip)
@[simp] def W18_7 := @C.wpe _ _ K18_7.eq_1
def K18_8 : Pl := .st (.act none (.px (some 10) (.un .not (.v 9)))) .done
@[simp] def W18_8 := @Pl.wpe _ _ K18_8.eq_1
def K18_9 : C := .seq (.seq (.pl <| .st (.ext 5 6) <|
    .st (.act none (.als 5 none 2)) <|
    .st (.act none (.pget (some 6) (some 5) 2 0 none)) <|
    .st (.act none (.als 7 none 3)) <|
    .st (.act none (.pget (some 8) (some 7) 3 0 none)) <|
    .st (.act none (.ex (some 9) (.call fn_laws_eqIntS [.v 6, .v 8]))) K18_8) K18_7) K18_5
@[simp] def W18_9 := @C.wpe _ _ K18_9.eq_1
def B_laws_eqSystem : C := .seq (.pl <| .st (.ext 5 0) <|
    .st (.act none (.pnew 2 (.v 0) [])) <|
    .st (.act none (.pnew 3 (.v 1) [])) <|
    .st (.act none (.px (some 4) (.mv (.c (.bool false))))) .done) K18_9
@[simp] def WB_laws_eqSystem := @C.wpe _ _ B_laws_eqSystem.eq_1
def R_laws_eqSystem : FIR := ⟨B_laws_eqSystem, 5, [(4, none)]⟩
theorem IR_laws_eqSystem : cfun Try.prog H_laws_eqSystem Try.f18 = some R_laws_eqSystem := by kernel_rfl
theorem EN_laws_eqSystem {args : List Value} {h : Heap} {k : Value → Heap → Prop} (hargs : args.length = 2) (hw : B_laws_eqSystem.wp Try.prog (retQ [(4, none)] k) (env0 args 5) h) : CallE Try.prog fn_laws_eqSystem args h k := enter Try.func18 rfl IR_laws_eqSystem hargs hw

def H_laws_heldBoolS : Hint := ⟨[(0, false), (1, false), (4, false), (5, false)], [[2]]⟩
def K23_1 : C := .seq (.pl <| .st (.ext 4 1) <|
    .st (.act none (.px (some 4) (.mv (.v 1)))) <|
    .st (.act none (.px (some 2) (.mv (.v 4)))) .done) (.ret)
@[simp] def W23_1 := @C.wpe _ _ K23_1.eq_1
def K23_2 : C := .pl <| .st (.ext 4 2) <|
    .st (.act none (.px (some 4) (.mv (.v 3)))) <|
    .st (.act none (.px (some 5) (.bin .add (.v 4) (.c (.int .i64 1))))) <|
    .st (.act none (.px (some 3) (.mv (.v 5)))) .done
@[simp] def W23_2 := @C.wpe _ _ K23_2.eq_1
def K23_3 : C := .pl <| .st (.ext 4 2) <|
    .st (.act none (.px (some 4) (.mv (.v 1)))) <|
    .st (.act none (.px (some 5) (.bin .add (.v 4) (.c (.int .i64 1))))) <|
    .st (.act none (.px (some 1) (.mv (.v 5)))) .done
@[simp] def W23_3 := @C.wpe _ _ K23_3.eq_1
def K23_4 : C := .seq (.pl <| .st (.ext 4 0) <|
    .st (.act none (.px (some 2) (.mv (.c (.int .i64 (-1)))))) .done) (.ret)
@[simp] def W23_4 := @C.wpe _ _ K23_4.eq_1
def K23_5 : C := .cond 4 (.v 11) K23_4 (.skip)
@[simp] def W23_5 := @C.wpe _ _ K23_5.eq_1
def K23_6 : C := .seq (.block 1 (.seq (.seq (.pl <| .st (.ext 4 8) <|
    .st (.act none (.px (some 4) (.mv (.v 0)))) <|
    .st (.act none (.px (some 5) (.mv (.v 3)))) <|
    .st (.act none (.px (some 6) (.ia 1 (.v 4) (.v 5)))) <|
    .st (.act none (.ld (some 7) (.v 6) none)) <|
    .st (.act none (.px (some 8) (.mv (.v 1)))) <|
    .st (.act none (.px (some 9) (.bin .rem (.v 8) (.c (.int .i64 3))))) <|
    .st (.act none (.px (some 10) (.bin .eql (.v 9) (.c (.int .i64 0))))) <|
    .st (.act none (.px (some 11) (.eqb true (.v 7) (.v 10)))) .done) K23_5) K23_3)) K23_2
@[simp] def W23_6 := @C.wpe _ _ K23_6.eq_1
def K23_7 : C := .cond 4 (.v 7) (.skip) (.exit 0)
@[simp] def W23_7 := @C.wpe _ _ K23_7.eq_1
def K23_8 : C := .seq (.seq (.pl <| .st (.ext 4 4) <|
    .st (.act none (.px (some 4) (.mv (.v 3)))) <|
    .st (.act none (.px (some 5) (.mv (.v 0)))) <|
    .st (.act none (.px (some 6) (.lenV (.v 5)))) <|
    .st (.act none (.px (some 7) (.bin .lss (.v 4) (.v 6)))) .done) K23_7) K23_6
@[simp] def W23_8 := @C.wpe _ _ K23_8.eq_1
def K23_9 : C := .block 0 (.loop 4 [2] K23_8)
@[simp] def W23_9 := @C.wpe _ _ K23_9.eq_1
def K23_10 : C := .seq (.seq (.pl <| .st (.ext 4 0) <|
    .st (.act none (.px (some 3) (.mv (.c (.int .i64 0))))) .done) K23_9) K23_1
@[simp] def W23_10 := @C.wpe _ _ K23_10.eq_1
def B_laws_heldBoolS : C := .seq (.pl <| .st (.ext 4 0) <|
    .st (.act none (.px (some 2) (.mv (.c (.int .i64 0))))) .done) K23_10
@[simp] def WB_laws_heldBoolS := @C.wpe _ _ B_laws_heldBoolS.eq_1
def R_laws_heldBoolS : FIR := ⟨B_laws_heldBoolS, 4, [(2, none)]⟩
theorem IR_laws_heldBoolS : cfun Try.prog H_laws_heldBoolS Try.f23 = some R_laws_heldBoolS := by kernel_rfl
theorem EN_laws_heldBoolS {args : List Value} {h : Heap} {k : Value → Heap → Prop} (hargs : args.length = 2) (hw : B_laws_heldBoolS.wp Try.prog (retQ [(2, none)] k) (env0 args 4) h) : CallE Try.prog fn_laws_heldBoolS args h k := enter Try.func23 rfl IR_laws_heldBoolS hargs hw

def H_laws_markBoolS : Hint := ⟨[(0, false), (1, false), (4, false), (5, false)], [[2]]⟩
def K22_1 : C := .seq (.pl <| .st (.ext 4 1) <|
    .st (.act none (.px (some 4) (.mv (.v 1)))) <|
    .st (.act none (.px (some 2) (.mv (.v 4)))) .done) (.ret)
@[simp] def W22_1 := @C.wpe _ _ K22_1.eq_1
def K22_2 : C := .pl <| .st (.ext 4 2) <|
    .st (.act none (.px (some 4) (.mv (.v 3)))) <|
    .st (.act none (.px (some 5) (.bin .add (.v 4) (.c (.int .i64 1))))) <|
    .st (.act none (.px (some 3) (.mv (.v 5)))) .done
@[simp] def W22_2 := @C.wpe _ _ K22_2.eq_1
def K22_3 : C := .pl <| .st (.ext 4 2) <|
    .st (.act none (.px (some 4) (.mv (.v 1)))) <|
    .st (.act none (.px (some 5) (.bin .add (.v 4) (.c (.int .i64 1))))) <|
    .st (.act none (.px (some 1) (.mv (.v 5)))) .done
@[simp] def W22_3 := @C.wpe _ _ K22_3.eq_1
def K22_4 : C := .seq (.block 1 (.seq (.pl <| .st (.ext 4 6) <|
    .st (.act none (.px (some 4) (.mv (.v 0)))) <|
    .st (.act none (.px (some 5) (.mv (.v 3)))) <|
    .st (.act none (.px (some 6) (.mv (.v 1)))) <|
    .st (.act none (.px (some 7) (.bin .rem (.v 6) (.c (.int .i64 3))))) <|
    .st (.act none (.px (some 8) (.bin .eql (.v 7) (.c (.int .i64 0))))) <|
    .st (.act none (.px (some 9) (.ia 1 (.v 4) (.v 5)))) <|
    .st (.act none (.ex none (.store 1 (.v 9) (.v 8)))) .done) K22_3)) K22_2
@[simp] def W22_4 := @C.wpe _ _ K22_4.eq_1
def K22_5 : C := .cond 4 (.v 7) (.skip) (.exit 0)
@[simp] def W22_5 := @C.wpe _ _ K22_5.eq_1
def K22_6 : C := .seq (.seq (.pl <| .st (.ext 4 4) <|
    .st (.act none (.px (some 4) (.mv (.v 3)))) <|
    .st (.act none (.px (some 5) (.mv (.v 0)))) <|
    .st (.act none (.px (some 6) (.lenV (.v 5)))) <|
    .st (.act none (.px (some 7) (.bin .lss (.v 4) (.v 6)))) .done) K22_5) K22_4
@[simp] def W22_6 := @C.wpe _ _ K22_6.eq_1
def K22_7 : C := .block 0 (.loop 4 [2] K22_6)
@[simp] def W22_7 := @C.wpe _ _ K22_7.eq_1
def K22_8 : C := .seq (.seq (.pl <| .st (.ext 4 0) <|
    .st (.act none (.px (some 3) (.mv (.c (.int .i64 0))))) .done) K22_7) K22_1
@[simp] def W22_8 := @C.wpe _ _ K22_8.eq_1
def B_laws_markBoolS : C := .seq (.pl <| .st (.ext 4 0) <|
    .st (.act none (.px (some 2) (.mv (.c (.int .i64 0))))) .done) K22_8
@[simp] def WB_laws_markBoolS := @C.wpe _ _ B_laws_markBoolS.eq_1
def R_laws_markBoolS : FIR := ⟨B_laws_markBoolS, 4, [(2, none)]⟩
theorem IR_laws_markBoolS : cfun Try.prog H_laws_markBoolS Try.f22 = some R_laws_markBoolS := by kernel_rfl
theorem EN_laws_markBoolS {args : List Value} {h : Heap} {k : Value → Heap → Prop} (hargs : args.length = 2) (hw : B_laws_markBoolS.wp Try.prog (retQ [(2, none)] k) (env0 args 4) h) : CallE Try.prog fn_laws_markBoolS args h k := enter Try.func22 rfl IR_laws_markBoolS hargs hw

def H_laws_markEdgeS : Hint := ⟨[(0, false), (1, false), (4, false), (5, false)], [[2]]⟩
def K122_1 : C := .seq (.pl <| .st (.ext 4 1) <|
    .st (.act none (.px (some 4) (.mv (.v 1)))) <|
    .st (.act none (.px (some 2) (.mv (.v 4)))) .done) (.ret)
@[simp] def W122_1 := @C.wpe _ _ K122_1.eq_1
def K122_2 : C := .pl <| .st (.ext 4 2) <|
    .st (.act none (.px (some 4) (.mv (.v 3)))) <|
    .st (.act none (.px (some 5) (.bin .add (.v 4) (.c (.int .i64 1))))) <|
    .st (.act none (.px (some 3) (.mv (.v 5)))) .done
@[simp] def W122_2 := @C.wpe _ _ K122_2.eq_1
def K122_3 : C := .pl <| .st (.ext 4 2) <|
    .st (.act none (.px (some 4) (.mv (.v 1)))) <|
    .st (.act none (.px (some 5) (.bin .add (.v 4) (.c (.int .i64 1))))) <|
    .st (.act none (.px (some 1) (.mv (.v 5)))) .done
@[simp] def W122_3 := @C.wpe _ _ K122_3.eq_1
def K122_4 : C := .seq (.pl <| .st (.ext 4 5) <|
    .st (.act none (.px (some 4) (.mv (.v 0)))) <|
    .st (.act none (.px (some 5) (.mv (.v 3)))) <|
    .st (.act none (.px (some 6) (.mv (.v 1)))) <|
    .st (.act none (.px (some 7) (.ia 10 (.v 4) (.v 5)))) <|
    .st (.act none (.px (some 8) (.fa 9 (.v 7)))) <|
    .st (.act none (.ex none (.store 1 (.v 8) (.v 6)))) .done) K122_3
@[simp] def W122_4 := @C.wpe _ _ K122_4.eq_1
def K122_5 : Pl := .st (.act none (.px (some 1) (.mv (.v 11)))) .done
@[simp] def W122_5 := @Pl.wpe _ _ K122_5.eq_1
def K122_6 : C := .seq (.pl <| .st (.ext 4 8) <|
    .st (.act none (.px (some 4) (.mv (.v 0)))) <|
    .st (.act none (.px (some 5) (.mv (.v 3)))) <|
    .st (.act none (.px (some 6) (.ia 10 (.v 4) (.v 5)))) <|
    .st (.act none (.px (some 7) (.fa 6 (.v 6)))) <|
    .st (.act none (.px (some 8) (.fa 2 (.v 7)))) <|
    .st (.act none (.ld (some 9) (.v 8) none)) <|
    .st (.act none (.px (some 10) (.mv (.v 1)))) <|
    .st (.act none (.ex (some 11) (.call fn_laws_markExprS [.v 9, .v 10]))) K122_5) K122_4
@[simp] def W122_6 := @C.wpe _ _ K122_6.eq_1
def K122_7 : C := .seq (.pl <| .st (.ext 4 2) <|
    .st (.act none (.px (some 4) (.mv (.v 1)))) <|
    .st (.act none (.px (some 5) (.bin .add (.v 4) (.c (.int .i64 1))))) <|
    .st (.act none (.px (some 1) (.mv (.v 5)))) .done) K122_6
@[simp] def W122_7 := @C.wpe _ _ K122_7.eq_1
def K122_8 : C := .seq (.pl <| .st (.ext 4 6) <|
    .st (.act none (.px (some 4) (.mv (.v 0)))) <|
    .st (.act none (.px (some 5) (.mv (.v 3)))) <|
    .st (.act none (.px (some 6) (.mv (.v 1)))) <|
    .st (.act none (.px (some 7) (.ia 10 (.v 4) (.v 5)))) <|
    .st (.act none (.px (some 8) (.fa 6 (.v 7)))) <|
    .st (.act none (.px (some 9) (.fa 1 (.v 8)))) <|
    .st (.act none (.ex none (.store 1 (.v 9) (.v 6)))) .done) K122_7
@[simp] def W122_8 := @C.wpe _ _ K122_8.eq_1
def K122_9 : C := .seq (.pl <| .st (.ext 4 2) <|
    .st (.act none (.px (some 4) (.mv (.v 1)))) <|
    .st (.act none (.px (some 5) (.bin .add (.v 4) (.c (.int .i64 1))))) <|
    .st (.act none (.px (some 1) (.mv (.v 5)))) .done) K122_8
@[simp] def W122_9 := @C.wpe _ _ K122_9.eq_1
def K122_10 : C := .seq (.pl <| .st (.ext 4 6) <|
    .st (.act none (.px (some 4) (.mv (.v 0)))) <|
    .st (.act none (.px (some 5) (.mv (.v 3)))) <|
    .st (.act none (.px (some 6) (.mv (.v 1)))) <|
    .st (.act none (.px (some 7) (.ia 10 (.v 4) (.v 5)))) <|
    .st (.act none (.px (some 8) (.fa 6 (.v 7)))) <|
    .st (.act none (.px (some 9) (.fa 0 (.v 8)))) <|
    .st (.act none (.ex none (.store 1 (.v 9) (.v 6)))) .done) K122_9
@[simp] def W122_10 := @C.wpe _ _ K122_10.eq_1
def K122_11 : C := .seq (.pl <| .st (.ext 4 2) <|
    .st (.act none (.px (some 4) (.mv (.v 1)))) <|
    .st (.act none (.px (some 5) (.bin .add (.v 4) (.c (.int .i64 1))))) <|
    .st (.act none (.px (some 1) (.mv (.v 5)))) .done) K122_10
@[simp] def W122_11 := @C.wpe _ _ K122_11.eq_1
def K122_12 : C := .seq (.pl <| .st (.ext 4 5) <|
    .st (.act none (.px (some 4) (.mv (.v 0)))) <|
    .st (.act none (.px (some 5) (.mv (.v 3)))) <|
    .st (.act none (.px (some 6) (.mv (.v 1)))) <|
    .st (.act none (.px (some 7) (.ia 10 (.v 4) (.v 5)))) <|
    .st (.act none (.px (some 8) (.fa 5 (.v 7)))) <|
    .st (.act none (.ex none (.store 1 (.v 8) (.v 6)))) .done) K122_11
@[simp] def W122_12 := @C.wpe _ _ K122_12.eq_1
def K122_13 : Pl := .st (.act none (.px (some 1) (.mv (.v 11)))) .done
@[simp] def W122_13 := @Pl.wpe _ _ K122_13.eq_1
def K122_14 : C := .seq (.pl <| .st (.ext 4 8) <|
    .st (.act none (.px (some 4) (.mv (.v 0)))) <|
    .st (.act none (.px (some 5) (.mv (.v 3)))) <|
    .st (.act none (.px (some 6) (.ia 10 (.v 4) (.v 5)))) <|
    .st (.act none (.px (some 7) (.fa 2 (.v 6)))) <|
    .st (.act none (.px (some 8) (.fa 2 (.v 7)))) <|
    .st (.act none (.ld (some 9) (.v 8) none)) <|
    .st (.act none (.px (some 10) (.mv (.v 1)))) <|
    .st (.act none (.ex (some 11) (.call fn_laws_markExprS [.v 9, .v 10]))) K122_13) K122_12
@[simp] def W122_14 := @C.wpe _ _ K122_14.eq_1
def K122_15 : C := .seq (.pl <| .st (.ext 4 2) <|
    .st (.act none (.px (some 4) (.mv (.v 1)))) <|
    .st (.act none (.px (some 5) (.bin .add (.v 4) (.c (.int .i64 1))))) <|
    .st (.act none (.px (some 1) (.mv (.v 5)))) .done) K122_14
@[simp] def W122_15 := @C.wpe _ _ K122_15.eq_1
def K122_16 : C := .seq (.pl <| .st (.ext 4 6) <|
    .st (.act none (.px (some 4) (.mv (.v 0)))) <|
    .st (.act none (.px (some 5) (.mv (.v 3)))) <|
    .st (.act none (.px (some 6) (.mv (.v 1)))) <|
    .st (.act none (.px (some 7) (.ia 10 (.v 4) (.v 5)))) <|
    .st (.act none (.px (some 8) (.fa 2 (.v 7)))) <|
    .st (.act none (.px (some 9) (.fa 1 (.v 8)))) <|
    .st (.act none (.ex none (.store 1 (.v 9) (.v 6)))) .done) K122_15
@[simp] def W122_16 := @C.wpe _ _ K122_16.eq_1
def K122_17 : C := .seq (.pl <| .st (.ext 4 2) <|
    .st (.act none (.px (some 4) (.mv (.v 1)))) <|
    .st (.act none (.px (some 5) (.bin .add (.v 4) (.c (.int .i64 1))))) <|
    .st (.act none (.px (some 1) (.mv (.v 5)))) .done) K122_16
@[simp] def W122_17 := @C.wpe _ _ K122_17.eq_1
def K122_18 : C := .seq (.pl <| .st (.ext 4 6) <|
    .st (.act none (.px (some 4) (.mv (.v 0)))) <|
    .st (.act none (.px (some 5) (.mv (.v 3)))) <|
    .st (.act none (.px (some 6) (.mv (.v 1)))) <|
    .st (.act none (.px (some 7) (.ia 10 (.v 4) (.v 5)))) <|
    .st (.act none (.px (some 8) (.fa 2 (.v 7)))) <|
    .st (.act none (.px (some 9) (.fa 0 (.v 8)))) <|
    .st (.act none (.ex none (.store 1 (.v 9) (.v 6)))) .done) K122_17
@[simp] def W122_18 := @C.wpe _ _ K122_18.eq_1
def K122_19 : C := .seq (.pl <| .st (.ext 4 2) <|
    .st (.act none (.px (some 4) (.mv (.v 1)))) <|
    .st (.act none (.px (some 5) (.bin .add (.v 4) (.c (.int .i64 1))))) <|
    .st (.act none (.px (some 1) (.mv (.v 5)))) .done) K122_18
@[simp] def W122_19 := @C.wpe _ _ K122_19.eq_1
def K122_20 : C := .seq (.pl <| .st (.ext 4 5) <|
    .st (.act none (.px (some 4) (.mv (.v 0)))) <|
    .st (.act none (.px (some 5) (.mv (.v 3)))) <|
    .st (.act none (.px (some 6) (.mv (.v 1)))) <|
    .st (.act none (.px (some 7) (.ia 10 (.v 4) (.v 5)))) <|
    .st (.act none (.px (some 8) (.fa 1 (.v 7)))) <|
    .st (.act none (.ex none (.store 1 (.v 8) (.v 6)))) .done) K122_19
@[simp] def W122_20 := @C.wpe _ _ K122_20.eq_1
def K122_21 : C := .seq (.pl <| .st (.ext 4 2) <|
    .st (.act none (.px (some 4) (.mv (.v 1)))) <|
    .st (.act none (.px (some 5) (.bin .add (.v 4) (.c (.int .i64 1))))) <|
    .st (.act none (.px (some 1) (.mv (.v 5)))) .done) K122_20
@[simp] def W122_21 := @C.wpe _ _ K122_21.eq_1
def K122_22 : C := .seq (.block 1 (.seq (.pl <| .st (.ext 4 5) <|
    .st (.act none (.px (some 4) (.mv (.v 0)))) <|
    .st (.act none (.px (some 5) (.mv (.v 3)))) <|
    .st (.act none (.px (some 6) (.mv (.v 1)))) <|
    .st (.act none (.px (some 7) (.ia 10 (.v 4) (.v 5)))) <|
    .st (.act none (.px (some 8) (.fa 0 (.v 7)))) <|
    .st (.act none (.ex none (.store 1 (.v 8) (.v 6)))) .done) K122_21)) K122_2
@[simp] def W122_22 := @C.wpe _ _ K122_22.eq_1
def K122_23 : C := .cond 4 (.v 7) (.skip) (.exit 0)
@[simp] def W122_23 := @C.wpe _ _ K122_23.eq_1
def K122_24 : C := .seq (.seq (.pl <| .st (.ext 4 4) <|
    .st (.act none (.px (some 4) (.mv (.v 3)))) <|
    .st (.act none (.px (some 5) (.mv (.v 0)))) <|
    .st (.act none (.px (some 6) (.lenV (.v 5)))) <|
    .st (.act none (.px (some 7) (.bin .lss (.v 4) (.v 6)))) .done) K122_23) K122_22
@[simp] def W122_24 := @C.wpe _ _ K122_24.eq_1
def K122_25 : C := .block 0 (.loop 4 [2] K122_24)
@[simp] def W122_25 := @C.wpe _ _ K122_25.eq_1
def K122_26 : C := .seq (.seq (.pl <| .st (.ext 4 0) <|
    .st (.act none (.px (some 3) (.mv (.c (.int .i64 0))))) .done) K122_25) K122_1
@[simp] def W122_26 := @C.wpe _ _ K122_26.eq_1
def B_laws_markEdgeS : C := .seq (.pl <| .st (.ext 4 0) <|
    .st (.act none (.px (some 2) (.mv (.c (.int .i64 0))))) .done) K122_26
@[simp] def WB_laws_markEdgeS := @C.wpe _ _ B_laws_markEdgeS.eq_1
def R_laws_markEdgeS : FIR := ⟨B_laws_markEdgeS, 4, [(2, none)]⟩
theorem IR_laws_markEdgeS : cfun Try.prog H_laws_markEdgeS Try.f122 = some R_laws_markEdgeS := by kernel_rfl
theorem EN_laws_markEdgeS {args : List Value} {h : Heap} {k : Value → Heap → Prop} (hargs : args.length = 2) (hw : B_laws_markEdgeS.wp Try.prog (retQ [(2, none)] k) (env0 args 4) h) : CallE Try.prog fn_laws_markEdgeS args h k := enter Try.func122 rfl IR_laws_markEdgeS hargs hw

def H_laws_markExprS : Hint := ⟨[(0, false), (1, false), (4, false), (5, false)], [[2]]⟩
def K21_1 : C := .seq (.pl <| .st (.ext 4 1) <|
    .st (.act none (.px (some 4) (.mv (.v 1)))) <|
    .st (.act none (.px (some 2) (.mv (.v 4)))) .done) (.ret)
@[simp] def W21_1 := @C.wpe _ _ K21_1.eq_1
def K21_2 : C := .pl <| .st (.ext 4 2) <|
    .st (.act none (.px (some 4) (.mv (.v 3)))) <|
    .st (.act none (.px (some 5) (.bin .add (.v 4) (.c (.int .i64 1))))) <|
    .st (.act none (.px (some 3) (.mv (.v 5)))) .done
@[simp] def W21_2 := @C.wpe _ _ K21_2.eq_1
def K21_3 : Pl := .st (.act none (.px (some 1) (.mv (.v 10)))) .done
@[simp] def W21_3 := @Pl.wpe _ _ K21_3.eq_1
def K21_4 : C := .pl <| .st (.ext 4 7) <|
    .st (.act none (.px (some 4) (.mv (.v 0)))) <|
    .st (.act none (.px (some 5) (.mv (.v 3)))) <|
    .st (.act none (.px (some 6) (.ia 3 (.v 4) (.v 5)))) <|
    .st (.act none (.px (some 7) (.fa 2 (.v 6)))) <|
    .st (.act none (.ld (some 8) (.v 7) none)) <|
    .st (.act none (.px (some 9) (.mv (.v 1)))) <|
    .st (.act none (.ex (some 10) (.call fn_laws_markExprS [.v 8, .v 9]))) K21_3
@[simp] def W21_4 := @C.wpe _ _ K21_4.eq_1
def K21_5 : C := .seq (.pl <| .st (.ext 4 2) <|
    .st (.act none (.px (some 4) (.mv (.v 1)))) <|
    .st (.act none (.px (some 5) (.bin .add (.v 4) (.c (.int .i64 1))))) <|
    .st (.act none (.px (some 1) (.mv (.v 5)))) .done) K21_4
@[simp] def W21_5 := @C.wpe _ _ K21_5.eq_1
def K21_6 : C := .seq (.pl <| .st (.ext 4 5) <|
    .st (.act none (.px (some 4) (.mv (.v 0)))) <|
    .st (.act none (.px (some 5) (.mv (.v 3)))) <|
    .st (.act none (.px (some 6) (.mv (.v 1)))) <|
    .st (.act none (.px (some 7) (.ia 3 (.v 4) (.v 5)))) <|
    .st (.act none (.px (some 8) (.fa 1 (.v 7)))) <|
    .st (.act none (.ex none (.store 1 (.v 8) (.v 6)))) .done) K21_5
@[simp] def W21_6 := @C.wpe _ _ K21_6.eq_1
def K21_7 : C := .seq (.pl <| .st (.ext 4 2) <|
    .st (.act none (.px (some 4) (.mv (.v 1)))) <|
    .st (.act none (.px (some 5) (.bin .add (.v 4) (.c (.int .i64 1))))) <|
    .st (.act none (.px (some 1) (.mv (.v 5)))) .done) K21_6
@[simp] def W21_7 := @C.wpe _ _ K21_7.eq_1
def K21_8 : C := .seq (.block 1 (.seq (.pl <| .st (.ext 4 5) <|
    .st (.act none (.px (some 4) (.mv (.v 0)))) <|
    .st (.act none (.px (some 5) (.mv (.v 3)))) <|
    .st (.act none (.px (some 6) (.mv (.v 1)))) <|
    .st (.act none (.px (some 7) (.ia 3 (.v 4) (.v 5)))) <|
    .st (.act none (.px (some 8) (.fa 0 (.v 7)))) <|
    .st (.act none (.ex none (.store 1 (.v 8) (.v 6)))) .done) K21_7)) K21_2
@[simp] def W21_8 := @C.wpe _ _ K21_8.eq_1
def K21_9 : C := .cond 4 (.v 7) (.skip) (.exit 0)
@[simp] def W21_9 := @C.wpe _ _ K21_9.eq_1
def K21_10 : C := .seq (.seq (.pl <| .st (.ext 4 4) <|
    .st (.act none (.px (some 4) (.mv (.v 3)))) <|
    .st (.act none (.px (some 5) (.mv (.v 0)))) <|
    .st (.act none (.px (some 6) (.lenV (.v 5)))) <|
    .st (.act none (.px (some 7) (.bin .lss (.v 4) (.v 6)))) .done) K21_9) K21_8
@[simp] def W21_10 := @C.wpe _ _ K21_10.eq_1
def K21_11 : C := .block 0 (.loop 4 [2] K21_10)
@[simp] def W21_11 := @C.wpe _ _ K21_11.eq_1
def K21_12 : C := .seq (.seq (.pl <| .st (.ext 4 0) <|
    .st (.act none (.px (some 3) (.mv (.c (.int .i64 0))))) .done) K21_11) K21_1
@[simp] def W21_12 := @C.wpe _ _ K21_12.eq_1
def B_laws_markExprS : C := .seq (.pl <| .st (.ext 4 0) <|
    .st (.act none (.px (some 2) (.mv (.c (.int .i64 0))))) .done) K21_12
@[simp] def WB_laws_markExprS := @C.wpe _ _ B_laws_markExprS.eq_1
def R_laws_markExprS : FIR := ⟨B_laws_markExprS, 4, [(2, none)]⟩
theorem IR_laws_markExprS : cfun Try.prog H_laws_markExprS Try.f21 = some R_laws_markExprS := by kernel_rfl
theorem EN_laws_markExprS {args : List Value} {h : Heap} {k : Value → Heap → Prop} (hargs : args.length = 2) (hw : B_laws_markExprS.wp Try.prog (retQ [(2, none)] k) (env0 args 4) h) : CallE Try.prog fn_laws_markExprS args h k := enter Try.func21 rfl IR_laws_markExprS hargs hw

def H_laws_markIntS : Hint := ⟨[(0, false), (1, false), (4, false), (5, false)], [[2]]⟩
def K31_1 : C := .seq (.pl <| .st (.ext 4 1) <|
    .st (.act none (.px (some 4) (.mv (.v 1)))) <|
    .st (.act none (.px (some 2) (.mv (.v 4)))) .done) (.ret)
@[simp] def W31_1 := @C.wpe _ _ K31_1.eq_1
def K31_2 : C := .pl <| .st (.ext 4 2) <|
    .st (.act none (.px (some 4) (.mv (.v 3)))) <|
    .st (.act none (.px (some 5) (.bin .add (.v 4) (.c (.int .i64 1))))) <|
    .st (.act none (.px (some 3) (.mv (.v 5)))) .done
@[simp] def W31_2 := @C.wpe _ _ K31_2.eq_1
def K31_3 : C := .pl <| .st (.ext 4 2) <|
    .st (.act none (.px (some 4) (.mv (.v 1)))) <|
    .st (.act none (.px (some 5) (.bin .add (.v 4) (.c (.int .i64 1))))) <|
    .st (.act none (.px (some 1) (.mv (.v 5)))) .done
@[simp] def W31_3 := @C.wpe _ _ K31_3.eq_1
def K31_4 : C := .seq (.block 1 (.seq (.pl <| .st (.ext 4 4) <|
    .st (.act none (.px (some 4) (.mv (.v 0)))) <|
    .st (.act none (.px (some 5) (.mv (.v 3)))) <|
    .st (.act none (.px (some 6) (.mv (.v 1)))) <|
    .st (.act none (.px (some 7) (.ia 1 (.v 4) (.v 5)))) <|
    .st (.act none (.ex none (.store 1 (.v 7) (.v 6)))) .done) K31_3)) K31_2
@[simp] def W31_4 := @C.wpe _ _ K31_4.eq_1
def K31_5 : C := .cond 4 (.v 7) (.skip) (.exit 0)
@[simp] def W31_5 := @C.wpe _ _ K31_5.eq_1
def K31_6 : C := .seq (.seq (.pl <| .st (.ext 4 4) <|
    .st (.act none (.px (some 4) (.mv (.v 3)))) <|
    .st (.act none (.px (some 5) (.mv (.v 0)))) <|
    .st (.act none (.px (some 6) (.lenV (.v 5)))) <|
    .st (.act none (.px (some 7) (.bin .lss (.v 4) (.v 6)))) .done) K31_5) K31_4
@[simp] def W31_6 := @C.wpe _ _ K31_6.eq_1
def K31_7 : C := .block 0 (.loop 4 [2] K31_6)
@[simp] def W31_7 := @C.wpe _ _ K31_7.eq_1
def K31_8 : C := .seq (.seq (.pl <| .st (.ext 4 0) <|
    .st (.act none (.px (some 3) (.mv (.c (.int .i64 0))))) .done) K31_7) K31_1
@[simp] def W31_8 := @C.wpe _ _ K31_8.eq_1
def B_laws_markIntS : C := .seq (.pl <| .st (.ext 4 0) <|
    .st (.act none (.px (some 2) (.mv (.c (.int .i64 0))))) .done) K31_8
@[simp] def WB_laws_markIntS := @C.wpe _ _ B_laws_markIntS.eq_1
def R_laws_markIntS : FIR := ⟨B_laws_markIntS, 4, [(2, none)]⟩
theorem IR_laws_markIntS : cfun Try.prog H_laws_markIntS Try.f31 = some R_laws_markIntS := by kernel_rfl
theorem EN_laws_markIntS {args : List Value} {h : Heap} {k : Value → Heap → Prop} (hargs : args.length = 2) (hw : B_laws_markIntS.wp Try.prog (retQ [(2, none)] k) (env0 args 4) h) : CallE Try.prog fn_laws_markIntS args h k := enter Try.func31 rfl IR_laws_markIntS hargs hw

def H_laws_markProcessS : Hint := ⟨[(0, false), (1, false), (4, false), (5, false)], [[2]]⟩
def K70_1 : C := .seq (.pl <| .st (.ext 4 1) <|
    .st (.act none (.px (some 4) (.mv (.v 1)))) <|
    .st (.act none (.px (some 2) (.mv (.v 4)))) .done) (.ret)
@[simp] def W70_1 := @C.wpe _ _ K70_1.eq_1
def K70_2 : C := .pl <| .st (.ext 4 2) <|
    .st (.act none (.px (some 4) (.mv (.v 3)))) <|
    .st (.act none (.px (some 5) (.bin .add (.v 4) (.c (.int .i64 1))))) <|
    .st (.act none (.px (some 3) (.mv (.v 5)))) .done
@[simp] def W70_2 := @C.wpe _ _ K70_2.eq_1
def K70_3 : Pl := .st (.act none (.px (some 1) (.mv (.v 10)))) .done
@[simp] def W70_3 := @Pl.wpe _ _ K70_3.eq_1
def K70_4 : C := .pl <| .st (.ext 4 7) <|
    .st (.act none (.px (some 4) (.mv (.v 0)))) <|
    .st (.act none (.px (some 5) (.mv (.v 3)))) <|
    .st (.act none (.px (some 6) (.ia 2 (.v 4) (.v 5)))) <|
    .st (.act none (.px (some 7) (.fa 1 (.v 6)))) <|
    .st (.act none (.ld (some 8) (.v 7) none)) <|
    .st (.act none (.px (some 9) (.mv (.v 1)))) <|
    .st (.act none (.ex (some 10) (.call fn_laws_markEdgeS [.v 8, .v 9]))) K70_3
@[simp] def W70_4 := @C.wpe _ _ K70_4.eq_1
def K70_5 : C := .seq (.pl <| .st (.ext 4 2) <|
    .st (.act none (.px (some 4) (.mv (.v 1)))) <|
    .st (.act none (.px (some 5) (.bin .add (.v 4) (.c (.int .i64 1))))) <|
    .st (.act none (.px (some 1) (.mv (.v 5)))) .done) K70_4
@[simp] def W70_5 := @C.wpe _ _ K70_5.eq_1
def K70_6 : C := .seq (.block 1 (.seq (.pl <| .st (.ext 4 5) <|
    .st (.act none (.px (some 4) (.mv (.v 0)))) <|
    .st (.act none (.px (some 5) (.mv (.v 3)))) <|
    .st (.act none (.px (some 6) (.mv (.v 1)))) <|
    .st (.act none (.px (some 7) (.ia 2 (.v 4) (.v 5)))) <|
    .st (.act none (.px (some 8) (.fa 0 (.v 7)))) <|
    .st (.act none (.ex none (.store 1 (.v 8) (.v 6)))) .done) K70_5)) K70_2
@[simp] def W70_6 := @C.wpe _ _ K70_6.eq_1
def K70_7 : C := .cond 4 (.v 7) (.skip) (.exit 0)
@[simp] def W70_7 := @C.wpe _ _ K70_7.eq_1
def K70_8 : C := .seq (.seq (.pl <| .st (.ext 4 4) <|
    .st (.act none (.px (some 4) (.mv (.v 3)))) <|
    .st (.act none (.px (some 5) (.mv (.v 0)))) <|
    .st (.act none (.px (some 6) (.lenV (.v 5)))) <|
    .st (.act none (.px (some 7) (.bin .lss (.v 4) (.v 6)))) .done) K70_7) K70_6
@[simp] def W70_8 := @C.wpe _ _ K70_8.eq_1
def K70_9 : C := .block 0 (.loop 4 [2] K70_8)
@[simp] def W70_9 := @C.wpe _ _ K70_9.eq_1
def K70_10 : C := .seq (.seq (.pl <| .st (.ext 4 0) <|
    .st (.act none (.px (some 3) (.mv (.c (.int .i64 0))))) .done) K70_9) K70_1
@[simp] def W70_10 := @C.wpe _ _ K70_10.eq_1
def B_laws_markProcessS : C := .seq (.pl <| .st (.ext 4 0) <|
    .st (.act none (.px (some 2) (.mv (.c (.int .i64 0))))) .done) K70_10
@[simp] def WB_laws_markProcessS := @C.wpe _ _ B_laws_markProcessS.eq_1
def R_laws_markProcessS : FIR := ⟨B_laws_markProcessS, 4, [(2, none)]⟩
theorem IR_laws_markProcessS : cfun Try.prog H_laws_markProcessS Try.f70 = some R_laws_markProcessS := by kernel_rfl
theorem EN_laws_markProcessS {args : List Value} {h : Heap} {k : Value → Heap → Prop} (hargs : args.length = 2) (hw : B_laws_markProcessS.wp Try.prog (retQ [(2, none)] k) (env0 args 4) h) : CallE Try.prog fn_laws_markProcessS args h k := enter Try.func70 rfl IR_laws_markProcessS hargs hw

def H_laws_markSystem : Hint := ⟨[(0, false), (1, false), (2, true), (4, false)], []⟩
def K20_1 : C := .seq (.pl <| .st (.ext 4 1) <|
    .st (.act none (.px (some 4) (.mv (.v 1)))) <|
    .st (.act none (.px (some 3) (.mv (.v 4)))) .done) (.ret)
@[simp] def W20_1 := @C.wpe _ _ K20_1.eq_1
def K20_2 : Pl := .st (.act none (.px (some 1) (.mv (.v 7)))) .done
@[simp] def W20_2 := @Pl.wpe _ _ K20_2.eq_1
def K20_3 : C := .seq (.pl <| .st (.ext 4 4) <|
    .st (.act none (.als 4 none 2)) <|
    .st (.act none (.pget (some 5) (some 4) 2 1 none)) <|
    .st (.act none (.px (some 6) (.mv (.v 1)))) <|
    .st (.act none (.ex (some 7) (.call fn_laws_markProcessS [.v 5, .v 6]))) K20_2) K20_1
@[simp] def W20_3 := @C.wpe _ _ K20_3.eq_1
def K20_4 : Pl := .st (.act none (.px (some 1) (.mv (.v 7)))) .done
@[simp] def W20_4 := @Pl.wpe _ _ K20_4.eq_1
def K20_5 : C := .seq (.pl <| .st (.ext 4 4) <|
    .st (.act none (.als 4 none 2)) <|
    .st (.act none (.pget (some 5) (some 4) 2 0 none)) <|
    .st (.act none (.px (some 6) (.mv (.v 1)))) <|
    .st (.act none (.ex (some 7) (.call fn_laws_markIntS [.v 5, .v 6]))) K20_4) K20_3
@[simp] def W20_5 := @C.wpe _ _ K20_5.eq_1
def B_laws_markSystem : C := .seq (.pl <| .st (.ext 4 0) <|
    .st (.act none (.pnew 2 (.v 0) [])) <|
    .st (.act none (.px (some 3) (.mv (.c (.int .i64 0))))) .done) K20_5
@[simp] def WB_laws_markSystem := @C.wpe _ _ B_laws_markSystem.eq_1
def R_laws_markSystem : FIR := ⟨B_laws_markSystem, 4, [(3, none)]⟩
theorem IR_laws_markSystem : cfun Try.prog H_laws_markSystem Try.f20 = some R_laws_markSystem := by kernel_rfl
theorem EN_laws_markSystem {args : List Value} {h : Heap} {k : Value → Heap → Prop} (hargs : args.length = 2) (hw : B_laws_markSystem.wp Try.prog (retQ [(3, none)] k) (env0 args 4) h) : CallE Try.prog fn_laws_markSystem args h k := enter Try.func20 rfl IR_laws_markSystem hargs hw

def H_laws_szEdge : Hint := ⟨[(0, false), (1, false), (2, true), (4, false)], []⟩
def K183_1 : C := .seq (.pl <| .st (.ext 4 1) <|
    .st (.act none (.px (some 4) (.mv (.v 1)))) <|
    .st (.act none (.px (some 3) (.mv (.v 4)))) .done) (.ret)
@[simp] def W183_1 := @C.wpe _ _ K183_1.eq_1
def K183_2 : C := .seq (.pl <| .st (.ext 4 0) <|
    .st (.act none (.px (some 3) (.mv (.c (.int .i64 (-1)))))) .done) (.ret)
@[simp] def W183_2 := @C.wpe _ _ K183_2.eq_1
def K183_3 : C := .cond 4 (.v 5) K183_2 (.skip)
@[simp] def W183_3 := @C.wpe _ _ K183_3.eq_1
def K183_4 : C := .seq (.seq (.pl <| .st (.ext 4 2) <|
    .st (.act none (.px (some 4) (.mv (.v 1)))) <|
    .st (.act none (.px (some 5) (.bin .lss (.v 4) (.c (.int .i64 0))))) .done) K183_3) K183_1
@[simp] def W183_4 := @C.wpe _ _ K183_4.eq_1
def K183_5 : Pl := .st (.act none (.px (some 1) (.mv (.v 7)))) .done
@[simp] def W183_5 := @Pl.wpe _ _ K183_5.eq_1
def K183_6 : C := .seq (.pl <| .st (.ext 4 4) <|
    .st (.act none (.als 4 none 2)) <|
    .st (.act none (.pget (some 5) (some 4) 2 6 (some 3))) <|
    .st (.act none (.px (some 6) (.mv (.v 1)))) <|
    .st (.act none (.ex (some 7) (.call fn_laws_szExpr [.v 5, .v 6]))) K183_5) K183_4
@[simp] def W183_6 := @C.wpe _ _ K183_6.eq_1
def K183_7 : C := .seq (.pl <| .st (.ext 4 0) <|
    .st (.act none (.px (some 3) (.mv (.c (.int .i64 (-1)))))) .done) (.ret)
@[simp] def W183_7 := @C.wpe _ _ K183_7.eq_1
def K183_8 : C := .cond 4 (.v 5) K183_7 (.skip)
@[simp] def W183_8 := @C.wpe _ _ K183_8.eq_1
def K183_9 : C := .seq (.seq (.pl <| .st (.ext 4 2) <|
    .st (.act none (.px (some 4) (.mv (.v 1)))) <|
    .st (.act none (.px (some 5) (.bin .lss (.v 4) (.c (.int .i64 0))))) .done) K183_8) K183_6
@[simp] def W183_9 := @C.wpe _ _ K183_9.eq_1
def K183_10 : Pl := .st (.act none (.px (some 1) (.mv (.v 7)))) .done
@[simp] def W183_10 := @Pl.wpe _ _ K183_10.eq_1
def K183_11 : C := .seq (.pl <| .st (.ext 4 4) <|
    .st (.act none (.als 4 none 2)) <|
    .st (.act none (.pget (some 5) (some 4) 2 2 (some 3))) <|
    .st (.act none (.px (some 6) (.mv (.v 1)))) <|
    .st (.act none (.ex (some 7) (.call fn_laws_szExpr [.v 5, .v 6]))) K183_10) K183_9
@[simp] def W183_11 := @C.wpe _ _ K183_11.eq_1
def B_laws_szEdge : C := .seq (.pl <| .st (.ext 4 0) <|
    .st (.act none (.pnew 2 (.v 0) [])) <|
    .st (.act none (.px (some 3) (.mv (.c (.int .i64 0))))) .done) K183_11
@[simp] def WB_laws_szEdge := @C.wpe _ _ B_laws_szEdge.eq_1
def R_laws_szEdge : FIR := ⟨B_laws_szEdge, 4, [(3, none)]⟩
theorem IR_laws_szEdge : cfun Try.prog H_laws_szEdge Try.f183 = some R_laws_szEdge := by kernel_rfl
theorem EN_laws_szEdge {args : List Value} {h : Heap} {k : Value → Heap → Prop} (hargs : args.length = 2) (hw : B_laws_szEdge.wp Try.prog (retQ [(3, none)] k) (env0 args 4) h) : CallE Try.prog fn_laws_szEdge args h k := enter Try.func183 rfl IR_laws_szEdge hargs hw

def H_laws_szEdgeS : Hint := ⟨[(0, false), (1, false), (4, false), (5, false)], [[2]]⟩
def K152_1 : C := .seq (.pl <| .st (.ext 4 1) <|
    .st (.act none (.px (some 4) (.mv (.v 1)))) <|
    .st (.act none (.px (some 2) (.mv (.v 4)))) .done) (.ret)
@[simp] def W152_1 := @C.wpe _ _ K152_1.eq_1
def K152_2 : C := .pl <| .st (.ext 4 2) <|
    .st (.act none (.px (some 4) (.mv (.v 3)))) <|
    .st (.act none (.px (some 5) (.bin .add (.v 4) (.c (.int .i64 1))))) <|
    .st (.act none (.px (some 3) (.mv (.v 5)))) .done
@[simp] def W152_2 := @C.wpe _ _ K152_2.eq_1
def K152_3 : C := .seq (.pl <| .st (.ext 4 0) <|
    .st (.act none (.px (some 2) (.mv (.c (.int .i64 (-1)))))) .done) (.ret)
@[simp] def W152_3 := @C.wpe _ _ K152_3.eq_1
def K152_4 : C := .cond 4 (.v 5) K152_3 (.skip)
@[simp] def W152_4 := @C.wpe _ _ K152_4.eq_1
def K152_5 : C := .seq (.pl <| .st (.ext 4 2) <|
    .st (.act none (.px (some 4) (.mv (.v 1)))) <|
    .st (.act none (.px (some 5) (.bin .lss (.v 4) (.c (.int .i64 0))))) .done) K152_4
@[simp] def W152_5 := @C.wpe _ _ K152_5.eq_1
def K152_6 : Pl := .st (.act none (.px (some 1) (.mv (.v 9)))) .done
@[simp] def W152_6 := @Pl.wpe _ _ K152_6.eq_1
def K152_7 : C := .seq (.block 1 (.seq (.pl <| .st (.ext 4 6) <|
    .st (.act none (.px (some 4) (.mv (.v 0)))) <|
    .st (.act none (.px (some 5) (.mv (.v 3)))) <|
    .st (.act none (.px (some 6) (.ia 10 (.v 4) (.v 5)))) <|
    .st (.act none (.ld (some 7) (.v 6) (some 10))) <|
    .st (.act none (.px (some 8) (.mv (.v 1)))) <|
    .st (.act none (.ex (some 9) (.call fn_laws_szEdge [.v 7, .v 8]))) K152_6) K152_5)) K152_2
@[simp] def W152_7 := @C.wpe _ _ K152_7.eq_1
def K152_8 : C := .cond 4 (.v 7) (.skip) (.exit 0)
@[simp] def W152_8 := @C.wpe _ _ K152_8.eq_1
def K152_9 : C := .seq (.seq (.pl <| .st (.ext 4 4) <|
    .st (.act none (.px (some 4) (.mv (.v 3)))) <|
    .st (.act none (.px (some 5) (.mv (.v 0)))) <|
    .st (.act none (.px (some 6) (.lenV (.v 5)))) <|
    .st (.act none (.px (some 7) (.bin .lss (.v 4) (.v 6)))) .done) K152_8) K152_7
@[simp] def W152_9 := @C.wpe _ _ K152_9.eq_1
def K152_10 : C := .block 0 (.loop 4 [2] K152_9)
@[simp] def W152_10 := @C.wpe _ _ K152_10.eq_1
def K152_11 : C := .seq (.seq (.pl <| .st (.ext 4 0) <|
    .st (.act none (.px (some 3) (.mv (.c (.int .i64 0))))) .done) K152_10) K152_1
@[simp] def W152_11 := @C.wpe _ _ K152_11.eq_1
def K152_12 : C := .seq (.pl <| .st (.ext 4 0) <|
    .st (.act none (.px (some 2) (.mv (.c (.int .i64 (-1)))))) .done) (.ret)
@[simp] def W152_12 := @C.wpe _ _ K152_12.eq_1
def K152_13 : C := .cond 4 (.v 5) K152_12 (.skip)
@[simp] def W152_13 := @C.wpe _ _ K152_13.eq_1
def K152_14 : C := .seq (.seq (.pl <| .st (.ext 4 2) <|
    .st (.act none (.px (some 4) (.mv (.v 1)))) <|
    .st (.act none (.px (some 5) (.bin .lss (.v 4) (.c (.int .i64 0))))) .done) K152_13) K152_11
@[simp] def W152_14 := @C.wpe _ _ K152_14.eq_1
def K152_15 : C := .seq (.pl <| .st (.ext 4 4) <|
    .st (.act none (.px (some 4) (.mv (.v 1)))) <|
    .st (.act none (.px (some 5) (.mv (.v 0)))) <|
    .st (.act none (.px (some 6) (.lenV (.v 5)))) <|
    .st (.act none (.px (some 7) (.bin .sub (.v 4) (.v 6)))) <|
    .st (.act none (.px (some 1) (.mv (.v 7)))) .done) K152_14
@[simp] def W152_15 := @C.wpe _ _ K152_15.eq_1
def B_laws_szEdgeS : C := .seq (.pl <| .st (.ext 4 0) <|
    .st (.act none (.px (some 2) (.mv (.c (.int .i64 0))))) .done) K152_15
@[simp] def WB_laws_szEdgeS := @C.wpe _ _ B_laws_szEdgeS.eq_1
def R_laws_szEdgeS : FIR := ⟨B_laws_szEdgeS, 4, [(2, none)]⟩
theorem IR_laws_szEdgeS : cfun Try.prog H_laws_szEdgeS Try.f152 = some R_laws_szEdgeS := by kernel_rfl
theorem EN_laws_szEdgeS {args : List Value} {h : Heap} {k : Value → Heap → Prop} (hargs : args.length = 2) (hw : B_laws_szEdgeS.wp Try.prog (retQ [(2, none)] k) (env0 args 4) h) : CallE Try.prog fn_laws_szEdgeS args h k := enter Try.func152 rfl IR_laws_szEdgeS hargs hw

def H_laws_szExpr : Hint := ⟨[(0, false), (1, false), (2, true), (4, false)], []⟩
def K59_1 : C := .seq (.pl <| .st (.ext 4 1) <|
    .st (.act none (.px (some 4) (.mv (.v 1)))) <|
    .st (.act none (.px (some 3) (.mv (.v 4)))) .done) (.ret)
@[simp] def W59_1 := @C.wpe _ _ K59_1.eq_1
def K59_2 : C := .seq (.pl <| .st (.ext 4 0) <|
    .st (.act none (.px (some 3) (.mv (.c (.int .i64 (-1)))))) .done) (.ret)
@[simp] def W59_2 := @C.wpe _ _ K59_2.eq_1
def K59_3 : C := .cond 4 (.v 5) K59_2 (.skip)
@[simp] def W59_3 := @C.wpe _ _ K59_3.eq_1
def K59_4 : C := .seq (.seq (.pl <| .st (.ext 4 2) <|
    .st (.act none (.px (some 4) (.mv (.v 1)))) <|
    .st (.act none (.px (some 5) (.bin .lss (.v 4) (.c (.int .i64 0))))) .done) K59_3) K59_1
@[simp] def W59_4 := @C.wpe _ _ K59_4.eq_1
def K59_5 : Pl := .st (.act none (.px (some 1) (.mv (.v 7)))) .done
@[simp] def W59_5 := @Pl.wpe _ _ K59_5.eq_1
def K59_6 : C := .seq (.pl <| .st (.ext 4 4) <|
    .st (.act none (.als 4 none 2)) <|
    .st (.act none (.pget (some 5) (some 4) 2 2 none)) <|
    .st (.act none (.px (some 6) (.mv (.v 1)))) <|
    .st (.act none (.ex (some 7) (.call fn_laws_szExprS [.v 5, .v 6]))) K59_5) K59_4
@[simp] def W59_6 := @C.wpe _ _ K59_6.eq_1
def B_laws_szExpr : C := .seq (.pl <| .st (.ext 4 0) <|
    .st (.act none (.pnew 2 (.v 0) [])) <|
    .st (.act none (.px (some 3) (.mv (.c (.int .i64 0))))) .done) K59_6
@[simp] def WB_laws_szExpr := @C.wpe _ _ B_laws_szExpr.eq_1
def R_laws_szExpr : FIR := ⟨B_laws_szExpr, 4, [(3, none)]⟩
theorem IR_laws_szExpr : cfun Try.prog H_laws_szExpr Try.f59 = some R_laws_szExpr := by kernel_rfl
theorem EN_laws_szExpr {args : List Value} {h : Heap} {k : Value → Heap → Prop} (hargs : args.length = 2) (hw : B_laws_szExpr.wp Try.prog (retQ [(3, none)] k) (env0 args 4) h) : CallE Try.prog fn_laws_szExpr args h k := enter Try.func59 rfl IR_laws_szExpr hargs hw

def H_laws_szExprS : Hint := ⟨[(0, false), (1, false), (4, false), (5, false)], [[2]]⟩
def K12_1 : C := .seq (.pl <| .st (.ext 4 1) <|
    .st (.act none (.px (some 4) (.mv (.v 1)))) <|
    .st (.act none (.px (some 2) (.mv (.v 4)))) .done) (.ret)
@[simp] def W12_1 := @C.wpe _ _ K12_1.eq_1
def K12_2 : C := .pl <| .st (.ext 4 2) <|
    .st (.act none (.px (some 4) (.mv (.v 3)))) <|
    .st (.act none (.px (some 5) (.bin .add (.v 4) (.c (.int .i64 1))))) <|
    .st (.act none (.px (some 3) (.mv (.v 5)))) .done
@[simp] def W12_2 := @C.wpe _ _ K12_2.eq_1
def K12_3 : C := .seq (.pl <| .st (.ext 4 0) <|
    .st (.act none (.px (some 2) (.mv (.c (.int .i64 (-1)))))) .done) (.ret)
@[simp] def W12_3 := @C.wpe _ _ K12_3.eq_1
def K12_4 : C := .cond 4 (.v 5) K12_3 (.skip)
@[simp] def W12_4 := @C.wpe _ _ K12_4.eq_1
def K12_5 : C := .seq (.pl <| .st (.ext 4 2) <|
    .st (.act none (.px (some 4) (.mv (.v 1)))) <|
    .st (.act none (.px (some 5) (.bin .lss (.v 4) (.c (.int .i64 0))))) .done) K12_4
@[simp] def W12_5 := @C.wpe _ _ K12_5.eq_1
def K12_6 : Pl := .st (.act none (.px (some 1) (.mv (.v 9)))) .done
@[simp] def W12_6 := @Pl.wpe _ _ K12_6.eq_1
def K12_7 : C := .seq (.block 1 (.seq (.pl <| .st (.ext 4 6) <|
    .st (.act none (.px (some 4) (.mv (.v 0)))) <|
    .st (.act none (.px (some 5) (.mv (.v 3)))) <|
    .st (.act none (.px (some 6) (.ia 3 (.v 4) (.v 5)))) <|
    .st (.act none (.ld (some 7) (.v 6) (some 3))) <|
    .st (.act none (.px (some 8) (.mv (.v 1)))) <|
    .st (.act none (.ex (some 9) (.call fn_laws_szExpr [.v 7, .v 8]))) K12_6) K12_5)) K12_2
@[simp] def W12_7 := @C.wpe _ _ K12_7.eq_1
def K12_8 : C := .cond 4 (.v 7) (.skip) (.exit 0)
@[simp] def W12_8 := @C.wpe _ _ K12_8.eq_1
def K12_9 : C := .seq (.seq (.pl <| .st (.ext 4 4) <|
    .st (.act none (.px (some 4) (.mv (.v 3)))) <|
    .st (.act none (.px (some 5) (.mv (.v 0)))) <|
    .st (.act none (.px (some 6) (.lenV (.v 5)))) <|
    .st (.act none (.px (some 7) (.bin .lss (.v 4) (.v 6)))) .done) K12_8) K12_7
@[simp] def W12_9 := @C.wpe _ _ K12_9.eq_1
def K12_10 : C := .block 0 (.loop 4 [2] K12_9)
@[simp] def W12_10 := @C.wpe _ _ K12_10.eq_1
def K12_11 : C := .seq (.seq (.pl <| .st (.ext 4 0) <|
    .st (.act none (.px (some 3) (.mv (.c (.int .i64 0))))) .done) K12_10) K12_1
@[simp] def W12_11 := @C.wpe _ _ K12_11.eq_1
def K12_12 : C := .seq (.pl <| .st (.ext 4 0) <|
    .st (.act none (.px (some 2) (.mv (.c (.int .i64 (-1)))))) .done) (.ret)
@[simp] def W12_12 := @C.wpe _ _ K12_12.eq_1
def K12_13 : C := .cond 4 (.v 5) K12_12 (.skip)
@[simp] def W12_13 := @C.wpe _ _ K12_13.eq_1
def K12_14 : C := .seq (.seq (.pl <| .st (.ext 4 2) <|
    .st (.act none (.px (some 4) (.mv (.v 1)))) <|
    .st (.act none (.px (some 5) (.bin .lss (.v 4) (.c (.int .i64 0))))) .done) K12_13) K12_11
@[simp] def W12_14 := @C.wpe _ _ K12_14.eq_1
def K12_15 : C := .seq (.pl <| .st (.ext 4 4) <|
    .st (.act none (.px (some 4) (.mv (.v 1)))) <|
    .st (.act none (.px (some 5) (.mv (.v 0)))) <|
    .st (.act none (.px (some 6) (.lenV (.v 5)))) <|
    .st (.act none (.px (some 7) (.bin .sub (.v 4) (.v 6)))) <|
    .st (.act none (.px (some 1) (.mv (.v 7)))) .done) K12_14
@[simp] def W12_15 := @C.wpe _ _ K12_15.eq_1
def B_laws_szExprS : C := .seq (.pl <| .st (.ext 4 0) <|
    .st (.act none (.px (some 2) (.mv (.c (.int .i64 0))))) .done) K12_15
@[simp] def WB_laws_szExprS := @C.wpe _ _ B_laws_szExprS.eq_1
def R_laws_szExprS : FIR := ⟨B_laws_szExprS, 4, [(2, none)]⟩
theorem IR_laws_szExprS : cfun Try.prog H_laws_szExprS Try.f12 = some R_laws_szExprS := by kernel_rfl
theorem EN_laws_szExprS {args : List Value} {h : Heap} {k : Value → Heap → Prop} (hargs : args.length = 2) (hw : B_laws_szExprS.wp Try.prog (retQ [(2, none)] k) (env0 args 4) h) : CallE Try.prog fn_laws_szExprS args h k := enter Try.func12 rfl IR_laws_szExprS hargs hw

def H_laws_szIntS : Hint := ⟨[(0, false), (1, false), (4, false)], []⟩
def K57_1 : C := .seq (.pl <| .st (.ext 3 1) <|
    .st (.act none (.px (some 3) (.mv (.v 1)))) <|
    .st (.act none (.px (some 2) (.mv (.v 3)))) .done) (.ret)
@[simp] def W57_1 := @C.wpe _ _ K57_1.eq_1
def K57_2 : C := .seq (.pl <| .st (.ext 3 0) <|
    .st (.act none (.px (some 2) (.mv (.c (.int .i64 (-1)))))) .done) (.ret)
@[simp] def W57_2 := @C.wpe _ _ K57_2.eq_1
def K57_3 : C := .cond 3 (.v 4) K57_2 (.skip)
@[simp] def W57_3 := @C.wpe _ _ K57_3.eq_1
def K57_4 : C := .seq (.seq (.pl <| .st (.ext 3 2) <|
    .st (.act none (.px (some 3) (.mv (.v 1)))) <|
    .st (.act none (.px (some 4) (.bin .lss (.v 3) (.c (.int .i64 0))))) .done) K57_3) K57_1
@[simp] def W57_4 := @C.wpe _ _ K57_4.eq_1
def K57_5 : C := .seq (.pl <| .st (.ext 3 4) <|
    .st (.act none (.px (some 3) (.mv (.v 1)))) <|
    .st (.act none (.px (some 4) (.mv (.v 0)))) <|
    .st (.act none (.px (some 5) (.lenV (.v 4)))) <|
    .st (.act none (.px (some 6) (.bin .sub (.v 3) (.v 5)))) <|
    .st (.act none (.px (some 1) (.mv (.v 6)))) .done) K57_4
@[simp] def W57_5 := @C.wpe _ _ K57_5.eq_1
def B_laws_szIntS : C := .seq (.pl <| .st (.ext 3 0) <|
    .st (.act none (.px (some 2) (.mv (.c (.int .i64 0))))) .done) K57_5
@[simp] def WB_laws_szIntS := @C.wpe _ _ B_laws_szIntS.eq_1
def R_laws_szIntS : FIR := ⟨B_laws_szIntS, 3, [(2, none)]⟩
theorem IR_laws_szIntS : cfun Try.prog H_laws_szIntS Try.f57 = some R_laws_szIntS := by kernel_rfl
theorem EN_laws_szIntS {args : List Value} {h : Heap} {k : Value → Heap → Prop} (hargs : args.length = 2) (hw : B_laws_szIntS.wp Try.prog (retQ [(2, none)] k) (env0 args 3) h) : CallE Try.prog fn_laws_szIntS args h k := enter Try.func57 rfl IR_laws_szIntS hargs hw

def H_laws_szProcess : Hint := ⟨[(0, false), (1, false), (2, true), (4, false)], []⟩
def K113_1 : C := .seq (.pl <| .st (.ext 4 1) <|
    .st (.act none (.px (some 4) (.mv (.v 1)))) <|
    .st (.act none (.px (some 3) (.mv (.v 4)))) .done) (.ret)
@[simp] def W113_1 := @C.wpe _ _ K113_1.eq_1
def K113_2 : C := .seq (.pl <| .st (.ext 4 0) <|
    .st (.act none (.px (some 3) (.mv (.c (.int .i64 (-1)))))) .done) (.ret)
@[simp] def W113_2 := @C.wpe _ _ K113_2.eq_1
def K113_3 : C := .cond 4 (.v 5) K113_2 (.skip)
@[simp] def W113_3 := @C.wpe _ _ K113_3.eq_1
def K113_4 : C := .seq (.seq (.pl <| .st (.ext 4 2) <|
    .st (.act none (.px (some 4) (.mv (.v 1)))) <|
    .st (.act none (.px (some 5) (.bin .lss (.v 4) (.c (.int .i64 0))))) .done) K113_3) K113_1
@[simp] def W113_4 := @C.wpe _ _ K113_4.eq_1
def K113_5 : Pl := .st (.act none (.px (some 1) (.mv (.v 7)))) .done
@[simp] def W113_5 := @Pl.wpe _ _ K113_5.eq_1
def K113_6 : C := .seq (.pl <| .st (.ext 4 4) <|
    .st (.act none (.als 4 none 2)) <|
    .st (.act none (.pget (some 5) (some 4) 2 1 none)) <|
    .st (.act none (.px (some 6) (.mv (.v 1)))) <|
    .st (.act none (.ex (some 7) (.call fn_laws_szEdgeS [.v 5, .v 6]))) K113_5) K113_4
@[simp] def W113_6 := @C.wpe _ _ K113_6.eq_1
def B_laws_szProcess : C := .seq (.pl <| .st (.ext 4 0) <|
    .st (.act none (.pnew 2 (.v 0) [])) <|
    .st (.act none (.px (some 3) (.mv (.c (.int .i64 0))))) .done) K113_6
@[simp] def WB_laws_szProcess := @C.wpe _ _ B_laws_szProcess.eq_1
def R_laws_szProcess : FIR := ⟨B_laws_szProcess, 4, [(3, none)]⟩
theorem IR_laws_szProcess : cfun Try.prog H_laws_szProcess Try.f113 = some R_laws_szProcess := by kernel_rfl
theorem EN_laws_szProcess {args : List Value} {h : Heap} {k : Value → Heap → Prop} (hargs : args.length = 2) (hw : B_laws_szProcess.wp Try.prog (retQ [(3, none)] k) (env0 args 4) h) : CallE Try.prog fn_laws_szProcess args h k := enter Try.func113 rfl IR_laws_szProcess hargs hw


end Go.Proofs.Ythgimpheeemooaa
