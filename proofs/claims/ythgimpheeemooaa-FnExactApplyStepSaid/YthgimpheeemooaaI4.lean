/-
  Bodies of functions in the small language, as a program printed them, and that each is what the translation gives.
-/
import Derived.Test.YthgimpheeemooaaI1
namespace Go.Proofs.Ythgimpheeemooaa
open Go
set_option linter.all false
set_option linter.defProp false
set_option maxRecDepth 1000000

def H_laws_toState : Hint := ⟨[(0, false), (1, true), (2, true), (3, true)], []⟩
def K35_1 : C := .seq (.pl <| .st (.ext 4 1) <|
    .st (.act none (.pget (some 4) none 3 0 (some 2))) <|
    .st (.act none (.pset none 2 0 2 (.v 4))) .done) (.ret)
@[simp] def W35_1 := @C.wpe _ _ K35_1.eq_1
def K35_2 : Pl := .st (.act none (.als 7 none 3)) <|
    .st (.act none (.pset (some 7) 3 1 1 (.v 6))) .done
@[simp] def W35_2 := @Pl.wpe _ _ K35_2.eq_1
def K35_3 : C := .seq (.pl <| .st (.ext 4 4) <|
    .st (.act none (.als 4 none 1)) <|
    .st (.act none (.pget (some 5) (some 4) 1 1 none)) <|
    .st (.act none (.ex (some 6) (.call fn_laws_toIntS [.v 5]))) K35_2) K35_1
@[simp] def W35_3 := @C.wpe _ _ K35_3.eq_1
def K35_4 : Pl := .st (.act none (.als 7 none 3)) <|
    .st (.act none (.pset (some 7) 3 0 1 (.v 6))) .done
@[simp] def W35_4 := @Pl.wpe _ _ K35_4.eq_1
def K35_5 : C := .seq (.pl <| .st (.ext 4 4) <|
    .st (.act none (.als 4 none 1)) <|
    .st (.act none (.pget (some 5) (some 4) 1 0 none)) <|
    .st (.act none (.ex (some 6) (.call fn_laws_toIntS [.v 5]))) K35_4) K35_3
@[simp] def W35_5 := @C.wpe _ _ K35_5.eq_1
def K35_6 : C := .seq (.pl <| .st (.ext 4 0) <|
    .st (.act none (.pnew 3 (.c (.agg #[.slice none 0 0, .slice none 0 0])) [])) .done) K35_5
@[simp] def W35_6 := @C.wpe _ _ K35_6.eq_1
def B_laws_toState : C := .seq (.pl <| .st (.ext 4 0) <|
    .st (.act none (.pnew 1 (.v 0) [])) <|
    .st (.act none (.pnew 2 (.c (.agg #[.slice none 0 0, .slice none 0 0])) [])) .done) K35_6
@[simp] def WB_laws_toState := @C.wpe _ _ B_laws_toState.eq_1
def R_laws_toState : FIR := ⟨B_laws_toState, 4, [(2, some (some 2))]⟩
theorem IR_laws_toState : cfun Try.prog H_laws_toState Try.f35 = some R_laws_toState := by kernel_rfl
theorem EN_laws_toState {args : List Value} {h : Heap} {k : Value → Heap → Prop} (hargs : args.length = 1) (hw : B_laws_toState.wp Try.prog (retQ [(2, some (some 2))] k) (env0 args 4) h) : CallE Try.prog fn_laws_toState args h k := enter Try.func35 rfl IR_laws_toState hargs hw

def H_laws_toStep : Hint := ⟨[(0, false), (1, true), (2, true), (3, true)], []⟩
def K44_1 : C := .seq (.pl <| .st (.ext 4 1) <|
    .st (.act none (.pget (some 4) none 3 0 (some 4))) <|
    .st (.act none (.pset none 2 0 4 (.v 4))) .done) (.ret)
@[simp] def W44_1 := @C.wpe _ _ K44_1.eq_1
def K44_2 : C := .seq (.pl <| .st (.ext 4 3) <|
    .st (.act none (.als 4 none 1)) <|
    .st (.act none (.pget (some 5) (some 4) 1 3 none)) <|
    .st (.act none (.als 6 none 3)) <|
    .st (.act none (.pset (some 6) 3 3 1 (.v 5))) .done) K44_1
@[simp] def W44_2 := @C.wpe _ _ K44_2.eq_1
def K44_3 : C := .seq (.pl <| .st (.ext 4 3) <|
    .st (.act none (.als 4 none 1)) <|
    .st (.act none (.pget (some 5) (some 4) 1 2 none)) <|
    .st (.act none (.als 6 none 3)) <|
    .st (.act none (.pset (some 6) 3 2 1 (.v 5))) .done) K44_2
@[simp] def W44_3 := @C.wpe _ _ K44_3.eq_1
def K44_4 : C := .seq (.pl <| .st (.ext 4 3) <|
    .st (.act none (.als 4 none 1)) <|
    .st (.act none (.pget (some 5) (some 4) 1 1 none)) <|
    .st (.act none (.als 6 none 3)) <|
    .st (.act none (.pset (some 6) 3 1 1 (.v 5))) .done) K44_3
@[simp] def W44_4 := @C.wpe _ _ K44_4.eq_1
def K44_5 : C := .seq (.pl <| .st (.ext 4 3) <|
    .st (.act none (.als 4 none 1)) <|
    .st (.act none (.pget (some 5) (some 4) 1 0 none)) <|
    .st (.act none (.als 6 none 3)) <|
    .st (.act none (.pset (some 6) 3 0 1 (.v 5))) .done) K44_4
@[simp] def W44_5 := @C.wpe _ _ K44_5.eq_1
def K44_6 : C := .seq (.pl <| .st (.ext 4 0) <|
    .st (.act none (.pnew 3 (.c (.agg #[.int .i64 0, .int .i64 0, .int .i64 0, .int .i64 0])) [])) .done) K44_5
@[simp] def W44_6 := @C.wpe _ _ K44_6.eq_1
def B_laws_toStep : C := .seq (.pl <| .st (.ext 4 0) <|
    .st (.act none (.pnew 1 (.v 0) [])) <|
    .st (.act none (.pnew 2 (.c (.agg #[.int .i64 0, .int .i64 0, .int .i64 0, .int .i64 0])) [])) .done) K44_6
@[simp] def WB_laws_toStep := @C.wpe _ _ B_laws_toStep.eq_1
def R_laws_toStep : FIR := ⟨B_laws_toStep, 4, [(2, some (some 4))]⟩
theorem IR_laws_toStep : cfun Try.prog H_laws_toStep Try.f44 = some R_laws_toStep := by kernel_rfl
theorem EN_laws_toStep {args : List Value} {h : Heap} {k : Value → Heap → Prop} (hargs : args.length = 1) (hw : B_laws_toStep.wp Try.prog (retQ [(2, some (some 4))] k) (env0 args 4) h) : CallE Try.prog fn_laws_toStep args h k := enter Try.func44 rfl IR_laws_toStep hargs hw

def H_laws_toSystem : Hint := ⟨[(0, false), (1, true), (2, true), (3, true)], []⟩
def K14_1 : C := .seq (.pl <| .st (.ext 4 1) <|
    .st (.act none (.pget (some 4) none 3 0 (some 2))) <|
    .st (.act none (.pset none 2 0 2 (.v 4))) .done) (.ret)
@[simp] def W14_1 := @C.wpe _ _ K14_1.eq_1
def K14_2 : Pl := .st (.act none (.als 7 none 3)) <|
    .st (.act none (.pset (some 7) 3 1 1 (.v 6))) .done
@[simp] def W14_2 := @Pl.wpe _ _ K14_2.eq_1
def K14_3 : C := .seq (.pl <| .st (.ext 4 4) <|
    .st (.act none (.als 4 none 1)) <|
    .st (.act none (.pget (some 5) (some 4) 1 1 none)) <|
    .st (.act none (.ex (some 6) (.call fn_laws_toProcessS [.v 5]))) K14_2) K14_1
@[simp] def W14_3 := @C.wpe _ _ K14_3.eq_1
def K14_4 : Pl := .st (.act none (.als 7 none 3)) <|
    .st (.act none (.pset (some 7) 3 0 1 (.v 6))) .done
@[simp] def W14_4 := @Pl.wpe _ _ K14_4.eq_1
def K14_5 : C := .seq (.pl <| .st (.ext 4 4) <|
    .st (.act none (.als 4 none 1)) <|
    .st (.act none (.pget (some 5) (some 4) 1 0 none)) <|
    .st (.act none (.ex (some 6) (.call fn_laws_toIntS [.v 5]))) K14_4) K14_3
@[simp] def W14_5 := @C.wpe _ _ K14_5.eq_1
def K14_6 : C := .seq (.pl <| .st (.ext 4 0) <|
    .st (.act none (.pnew 3 (.c (.agg #[.slice none 0 0, .slice none 0 0])) [])) .done) K14_5
@[simp] def W14_6 := @C.wpe _ _ K14_6.eq_1
def B_laws_toSystem : C := .seq (.pl <| .st (.ext 4 0) <|
    .st (.act none (.pnew 1 (.v 0) [])) <|
    .st (.act none (.pnew 2 (.c (.agg #[.slice none 0 0, .slice none 0 0])) [])) .done) K14_6
@[simp] def WB_laws_toSystem := @C.wpe _ _ B_laws_toSystem.eq_1
def R_laws_toSystem : FIR := ⟨B_laws_toSystem, 4, [(2, some (some 2))]⟩
theorem IR_laws_toSystem : cfun Try.prog H_laws_toSystem Try.f14 = some R_laws_toSystem := by kernel_rfl
theorem EN_laws_toSystem {args : List Value} {h : Heap} {k : Value → Heap → Prop} (hargs : args.length = 1) (hw : B_laws_toSystem.wp Try.prog (retQ [(2, some (some 2))] k) (env0 args 4) h) : CallE Try.prog fn_laws_toSystem args h k := enter Try.func14 rfl IR_laws_toSystem hargs hw

def H_slices_Clip_S_impl_Step_impl_Step : Hint := ⟨[(0, false), (2, false)], []⟩
def K176_1 : C := .seq (.pl <| .st (.ext 2 6) <|
    .st (.act none (.px (some 2) (.mv (.v 0)))) <|
    .st (.act none (.px (some 3) (.mv (.v 0)))) <|
    .st (.act none (.px (some 4) (.lenV (.v 3)))) <|
    .st (.act none (.px (some 5) (.mv (.v 0)))) <|
    .st (.act none (.px (some 6) (.lenV (.v 5)))) <|
    .st (.act none (.px (some 7) (.sliceV 4 (.v 2) none (some (.v 4)) (some (.v 6))))) <|
    .st (.act none (.px (some 1) (.mv (.v 7)))) .done) (.ret)
@[simp] def W176_1 := @C.wpe _ _ K176_1.eq_1
def B_slices_Clip_S_impl_Step_impl_Step : C := .seq (.pl <| .st (.ext 2 0) <|
    .st (.act none (.px (some 1) (.mv (.c (.slice none 0 0))))) .done) K176_1
@[simp] def WB_slices_Clip_S_impl_Step_impl_Step := @C.wpe _ _ B_slices_Clip_S_impl_Step_impl_Step.eq_1
def R_slices_Clip_S_impl_Step_impl_Step : FIR := ⟨B_slices_Clip_S_impl_Step_impl_Step, 2, [(1, none)]⟩
theorem IR_slices_Clip_S_impl_Step_impl_Step : cfun Try.prog H_slices_Clip_S_impl_Step_impl_Step Try.f176 = some R_slices_Clip_S_impl_Step_impl_Step := by kernel_rfl
theorem EN_slices_Clip_S_impl_Step_impl_Step {args : List Value} {h : Heap} {k : Value → Heap → Prop} (hargs : args.length = 1) (hw : B_slices_Clip_S_impl_Step_impl_Step.wp Try.prog (retQ [(1, none)] k) (env0 args 2) h) : CallE Try.prog fn_slices_Clip_S_impl_Step_impl_Step args h k := enter Try.func176 rfl IR_slices_Clip_S_impl_Step_impl_Step hargs hw

def H_slices_Clip_S_int_int : Hint := ⟨[(0, false), (2, false)], []⟩
def K165_1 : C := .seq (.pl <| .st (.ext 2 6) <|
    .st (.act none (.px (some 2) (.mv (.v 0)))) <|
    .st (.act none (.px (some 3) (.mv (.v 0)))) <|
    .st (.act none (.px (some 4) (.lenV (.v 3)))) <|
    .st (.act none (.px (some 5) (.mv (.v 0)))) <|
    .st (.act none (.px (some 6) (.lenV (.v 5)))) <|
    .st (.act none (.px (some 7) (.sliceV 1 (.v 2) none (some (.v 4)) (some (.v 6))))) <|
    .st (.act none (.px (some 1) (.mv (.v 7)))) .done) (.ret)
@[simp] def W165_1 := @C.wpe _ _ K165_1.eq_1
def B_slices_Clip_S_int_int : C := .seq (.pl <| .st (.ext 2 0) <|
    .st (.act none (.px (some 1) (.mv (.c (.slice none 0 0))))) .done) K165_1
@[simp] def WB_slices_Clip_S_int_int := @C.wpe _ _ B_slices_Clip_S_int_int.eq_1
def R_slices_Clip_S_int_int : FIR := ⟨B_slices_Clip_S_int_int, 2, [(1, none)]⟩
theorem IR_slices_Clip_S_int_int : cfun Try.prog H_slices_Clip_S_int_int Try.f165 = some R_slices_Clip_S_int_int := by kernel_rfl
theorem EN_slices_Clip_S_int_int {args : List Value} {h : Heap} {k : Value → Heap → Prop} (hargs : args.length = 1) (hw : B_slices_Clip_S_int_int.wp Try.prog (retQ [(1, none)] k) (env0 args 2) h) : CallE Try.prog fn_slices_Clip_S_int_int args h k := enter Try.func165 rfl IR_slices_Clip_S_int_int hargs hw

def H_slices_Clone_S_int_int : Hint := ⟨[(0, false), (2, false)], []⟩
def K166_1 : Pl := .st (.act none (.px (some 1) (.mv (.v 4)))) .done
@[simp] def W166_1 := @Pl.wpe _ _ K166_1.eq_1
def K166_2 : C := .seq (.pl <| .st (.ext 2 3) <|
    .st (.act none (.psl 2 [] [])) <|
    .st (.act none (.px (some 3) (.mv (.v 0)))) <|
    .st (.act none (.ex (some 4) (.app 8 1 [.int .i64 0] (.p 0 2) (.o (.v 3))))) K166_1) (.ret)
@[simp] def W166_2 := @C.wpe _ _ K166_2.eq_1
def K166_3 : C := .seq (.pl <| .st (.ext 2 0) <|
    .st (.act none (.px (some 1) (.mv (.c (.slice none 0 0))))) .done) (.ret)
@[simp] def W166_3 := @C.wpe _ _ K166_3.eq_1
def K166_4 : C := .cond 2 (.v 3) K166_3 (.skip)
@[simp] def W166_4 := @C.wpe _ _ K166_4.eq_1
def K166_5 : C := .seq (.seq (.pl <| .st (.ext 2 2) <|
    .st (.act none (.px (some 2) (.mv (.v 0)))) <|
    .st (.act none (.px (some 3) (.isNil false (.v 2)))) .done) K166_4) K166_2
@[simp] def W166_5 := @C.wpe _ _ K166_5.eq_1
def B_slices_Clone_S_int_int : C := .seq (.pl <| .st (.ext 2 0) <|
    .st (.act none (.px (some 1) (.mv (.c (.slice none 0 0))))) .done) K166_5
@[simp] def WB_slices_Clone_S_int_int := @C.wpe _ _ B_slices_Clone_S_int_int.eq_1
def R_slices_Clone_S_int_int : FIR := ⟨B_slices_Clone_S_int_int, 2, [(1, none)]⟩
theorem IR_slices_Clone_S_int_int : cfun Try.prog H_slices_Clone_S_int_int Try.f166 = some R_slices_Clone_S_int_int := by kernel_rfl
theorem EN_slices_Clone_S_int_int {args : List Value} {h : Heap} {k : Value → Heap → Prop} (hargs : args.length = 1) (hw : B_slices_Clone_S_int_int.wp Try.prog (retQ [(1, none)] k) (env0 args 2) h) : CallE Try.prog fn_slices_Clone_S_int_int args h k := enter Try.func166 rfl IR_slices_Clone_S_int_int hargs hw

def H_slices_ContainsFunc_S_impl_Edge_impl_Edge : Hint := ⟨[(0, false), (1, false), (4, false)], []⟩
def K107_1 : Pl := .st (.act none (.px (some 6) (.bin .geq (.v 5) (.c (.int .i64 0))))) <|
    .st (.act none (.px (some 2) (.mv (.v 6)))) .done
@[simp] def W107_1 := @Pl.wpe _ _ K107_1.eq_1
def K107_2 : C := .seq (.pl <| .st (.ext 3 4) <|
    .st (.act none (.px (some 3) (.mv (.v 0)))) <|
    .st (.act none (.px (some 4) (.mv (.v 1)))) <|
    .st (.act none (.ex (some 5) (.call fn_slices_IndexFunc_S_impl_Edge_impl_Edge [.v 3, .v 4]))) K107_1) (.ret)
@[simp] def W107_2 := @C.wpe _ _ K107_2.eq_1
def B_slices_ContainsFunc_S_impl_Edge_impl_Edge : C := .seq (.pl <| .st (.ext 3 0) <|
    .st (.act none (.px (some 2) (.mv (.c (.bool false))))) .done) K107_2
@[simp] def WB_slices_ContainsFunc_S_impl_Edge_impl_Edge := @C.wpe _ _ B_slices_ContainsFunc_S_impl_Edge_impl_Edge.eq_1
def R_slices_ContainsFunc_S_impl_Edge_impl_Edge : FIR := ⟨B_slices_ContainsFunc_S_impl_Edge_impl_Edge, 3, [(2, none)]⟩
theorem IR_slices_ContainsFunc_S_impl_Edge_impl_Edge : cfun Try.prog H_slices_ContainsFunc_S_impl_Edge_impl_Edge Try.f107 = some R_slices_ContainsFunc_S_impl_Edge_impl_Edge := by kernel_rfl
theorem EN_slices_ContainsFunc_S_impl_Edge_impl_Edge {args : List Value} {h : Heap} {k : Value → Heap → Prop} (hargs : args.length = 2) (hw : B_slices_ContainsFunc_S_impl_Edge_impl_Edge.wp Try.prog (retQ [(2, none)] k) (env0 args 3) h) : CallE Try.prog fn_slices_ContainsFunc_S_impl_Edge_impl_Edge args h k := enter Try.func107 rfl IR_slices_ContainsFunc_S_impl_Edge_impl_Edge hargs hw

def H_slices_ContainsFunc_S_impl_Expr_impl_Expr : Hint := ⟨[(0, false), (1, false), (4, false)], []⟩
def K118_1 : Pl := .st (.act none (.px (some 6) (.bin .geq (.v 5) (.c (.int .i64 0))))) <|
    .st (.act none (.px (some 2) (.mv (.v 6)))) .done
@[simp] def W118_1 := @Pl.wpe _ _ K118_1.eq_1
def K118_2 : C := .seq (.pl <| .st (.ext 3 4) <|
    .st (.act none (.px (some 3) (.mv (.v 0)))) <|
    .st (.act none (.px (some 4) (.mv (.v 1)))) <|
    .st (.act none (.ex (some 5) (.call fn_slices_IndexFunc_S_impl_Expr_impl_Expr [.v 3, .v 4]))) K118_1) (.ret)
@[simp] def W118_2 := @C.wpe _ _ K118_2.eq_1
def B_slices_ContainsFunc_S_impl_Expr_impl_Expr : C := .seq (.pl <| .st (.ext 3 0) <|
    .st (.act none (.px (some 2) (.mv (.c (.bool false))))) .done) K118_2
@[simp] def WB_slices_ContainsFunc_S_impl_Expr_impl_Expr := @C.wpe _ _ B_slices_ContainsFunc_S_impl_Expr_impl_Expr.eq_1
def R_slices_ContainsFunc_S_impl_Expr_impl_Expr : FIR := ⟨B_slices_ContainsFunc_S_impl_Expr_impl_Expr, 3, [(2, none)]⟩
theorem IR_slices_ContainsFunc_S_impl_Expr_impl_Expr : cfun Try.prog H_slices_ContainsFunc_S_impl_Expr_impl_Expr Try.f118 = some R_slices_ContainsFunc_S_impl_Expr_impl_Expr := by kernel_rfl
theorem EN_slices_ContainsFunc_S_impl_Expr_impl_Expr {args : List Value} {h : Heap} {k : Value → Heap → Prop} (hargs : args.length = 2) (hw : B_slices_ContainsFunc_S_impl_Expr_impl_Expr.wp Try.prog (retQ [(2, none)] k) (env0 args 3) h) : CallE Try.prog fn_slices_ContainsFunc_S_impl_Expr_impl_Expr args h k := enter Try.func118 rfl IR_slices_ContainsFunc_S_impl_Expr_impl_Expr hargs hw

def H_slices_ContainsFunc_S_int_int : Hint := ⟨[(0, false), (1, false), (4, false)], []⟩
def K147_1 : Pl := .st (.act none (.px (some 6) (.bin .geq (.v 5) (.c (.int .i64 0))))) <|
    .st (.act none (.px (some 2) (.mv (.v 6)))) .done
@[simp] def W147_1 := @Pl.wpe _ _ K147_1.eq_1
def K147_2 : C := .seq (.pl <| .st (.ext 3 4) <|
    .st (.act none (.px (some 3) (.mv (.v 0)))) <|
    .st (.act none (.px (some 4) (.mv (.v 1)))) <|
    .st (.act none (.ex (some 5) (.call fn_slices_IndexFunc_S_int_int [.v 3, .v 4]))) K147_1) (.ret)
@[simp] def W147_2 := @C.wpe _ _ K147_2.eq_1
def B_slices_ContainsFunc_S_int_int : C := .seq (.pl <| .st (.ext 3 0) <|
    .st (.act none (.px (some 2) (.mv (.c (.bool false))))) .done) K147_2
@[simp] def WB_slices_ContainsFunc_S_int_int := @C.wpe _ _ B_slices_ContainsFunc_S_int_int.eq_1
def R_slices_ContainsFunc_S_int_int : FIR := ⟨B_slices_ContainsFunc_S_int_int, 3, [(2, none)]⟩
theorem IR_slices_ContainsFunc_S_int_int : cfun Try.prog H_slices_ContainsFunc_S_int_int Try.f147 = some R_slices_ContainsFunc_S_int_int := by kernel_rfl
theorem EN_slices_ContainsFunc_S_int_int {args : List Value} {h : Heap} {k : Value → Heap → Prop} (hargs : args.length = 2) (hw : B_slices_ContainsFunc_S_int_int.wp Try.prog (retQ [(2, none)] k) (env0 args 3) h) : CallE Try.prog fn_slices_ContainsFunc_S_int_int args h k := enter Try.func147 rfl IR_slices_ContainsFunc_S_int_int hargs hw

def H_slices_Contains_S_impl_Step_impl_Step : Hint := ⟨[(0, false), (1, false), (3, true), (4, false)], []⟩
def K91_1 : Pl := .st (.act none (.px (some 7) (.bin .geq (.v 6) (.c (.int .i64 0))))) <|
    .st (.act none (.px (some 3) (.mv (.v 7)))) .done
@[simp] def W91_1 := @Pl.wpe _ _ K91_1.eq_1
def K91_2 : C := .seq (.pl <| .st (.ext 4 4) <|
    .st (.act none (.px (some 4) (.mv (.v 0)))) <|
    .st (.act none (.pget (some 5) none 2 0 (some 4))) <|
    .st (.act none (.ex (some 6) (.call fn_slices_Index_S_impl_Step_impl_Step [.v 4, .v 5]))) K91_1) (.ret)
@[simp] def W91_2 := @C.wpe _ _ K91_2.eq_1
def B_slices_Contains_S_impl_Step_impl_Step : C := .seq (.pl <| .st (.ext 4 0) <|
    .st (.act none (.pnew 2 (.v 1) [])) <|
    .st (.act none (.px (some 3) (.mv (.c (.bool false))))) .done) K91_2
@[simp] def WB_slices_Contains_S_impl_Step_impl_Step := @C.wpe _ _ B_slices_Contains_S_impl_Step_impl_Step.eq_1
def R_slices_Contains_S_impl_Step_impl_Step : FIR := ⟨B_slices_Contains_S_impl_Step_impl_Step, 4, [(3, none)]⟩
theorem IR_slices_Contains_S_impl_Step_impl_Step : cfun Try.prog H_slices_Contains_S_impl_Step_impl_Step Try.f91 = some R_slices_Contains_S_impl_Step_impl_Step := by kernel_rfl
theorem EN_slices_Contains_S_impl_Step_impl_Step {args : List Value} {h : Heap} {k : Value → Heap → Prop} (hargs : args.length = 2) (hw : B_slices_Contains_S_impl_Step_impl_Step.wp Try.prog (retQ [(3, none)] k) (env0 args 4) h) : CallE Try.prog fn_slices_Contains_S_impl_Step_impl_Step args h k := enter Try.func91 rfl IR_slices_Contains_S_impl_Step_impl_Step hargs hw

def H_slices_EqualFunc_S_impl_Expr_S_impl_Expr_impl_Expr_impl_Expr : Hint := ⟨[(0, false), (1, false), (2, false), (6, false), (7, false), (8, true), (9, true), (15, false), (16, false), (17, false)], [[0, 3, 4, 5, 6]]⟩
def K180_1 : C := .seq (.pl <| .st (.ext 10 0) <|
    .st (.act none (.px (some 3) (.mv (.c (.bool true))))) .done) (.ret)
@[simp] def W180_1 := @C.wpe _ _ K180_1.eq_1
def K180_2 : C := .pl <| .st (.ext 10 1) <|
    .st (.act none (.px (some 10) (.bin .add (.v 9) (.c (.int .i64 1))))) <|
    .st (.act none (.px (some 9) (.mv (.v 10)))) .done
@[simp] def W180_2 := @C.wpe _ _ K180_2.eq_1
def K180_3 : C := .seq (.pl <| .st (.ext 10 0) <|
    .st (.act none (.px (some 3) (.mv (.c (.bool false))))) .done) (.ret)
@[simp] def W180_3 := @C.wpe _ _ K180_3.eq_1
def K180_4 : C := .cond 10 (.v 14) K180_3 (.skip)
@[simp] def W180_4 := @C.wpe _ _ K180_4.eq_1
def K180_5 : Pl := .st (.act none (.px (some 14) (.un .not (.v 13)))) .done
@[simp] def W180_5 := @Pl.wpe _ _ K180_5.eq_1
def K180_6 : C := .seq (.pl <| .st (.ext 10 5) <|
    .st (.act none (.px (some 10) (.mv (.v 2)))) <|
    .st (.act none (.pget (some 11) none 5 0 (some 3))) <|
    .st (.act none (.pget (some 12) none 6 0 (some 3))) <|
    .st (.act none (.ex (some 13) (.callv (.v 10) [.v 11, .v 12]))) K180_5) K180_4
@[simp] def W180_6 := @C.wpe _ _ K180_6.eq_1
def K180_7 : C := .seq (.pl <| .st (.ext 10 4) <|
    .st (.act none (.px (some 10) (.mv (.v 1)))) <|
    .st (.act none (.px (some 11) (.mv (.v 4)))) <|
    .st (.act none (.px (some 12) (.ia 3 (.v 10) (.v 11)))) <|
    .st (.act none (.ld (some 13) (.v 12) (some 3))) <|
    .st (.act none (.pnew 6 (.c (.agg #[.int .i64 0, .int .i64 0, .slice none 0 0])) [])) <|
    .st (.act none (.pset none 6 0 3 (.v 13))) .done) K180_6
@[simp] def W180_7 := @C.wpe _ _ K180_7.eq_1
def K180_8 : C := .seq (.block 1 (.seq (.pl <| .st (.ext 10 3) <|
    .st (.act none (.px (some 10) (.mv (.v 9)))) <|
    .st (.act none (.px (some 11) (.ia 3 (.v 7) (.v 9)))) <|
    .st (.act none (.ld (some 12) (.v 11) (some 3))) <|
    .st (.act none (.pnew 5 (.c (.agg #[.int .i64 0, .int .i64 0, .slice none 0 0])) [])) <|
    .st (.act none (.px (some 4) (.mv (.v 10)))) <|
    .st (.act none (.pset none 5 0 3 (.v 12))) .done) K180_7)) K180_2
@[simp] def W180_8 := @C.wpe _ _ K180_8.eq_1
def K180_9 : C := .seq (.cond 10 (.v 10) (.skip) (.exit 0)) K180_8
@[simp] def W180_9 := @C.wpe _ _ K180_9.eq_1
def K180_10 : C := .seq (.pl <| .st (.ext 10 1) <|
    .st (.act none (.px (some 10) (.bin .lss (.v 9) (.v 8)))) .done) K180_9
@[simp] def W180_10 := @C.wpe _ _ K180_10.eq_1
def K180_11 : C := .block 0 (.loop 10 [0, 3, 4, 5, 6] K180_10)
@[simp] def W180_11 := @C.wpe _ _ K180_11.eq_1
def K180_12 : C := .seq (.seq (.pl <| .st (.ext 10 0) <|
    .st (.act none (.px (some 7) (.mv (.v 0)))) <|
    .st (.act none (.px (some 8) (.lenV (.v 7)))) <|
    .st (.act none (.px (some 9) (.mv (.c (.int .i64 0))))) .done) K180_11) K180_1
@[simp] def W180_12 := @C.wpe _ _ K180_12.eq_1
def K180_13 : C := .seq (.pl <| .st (.ext 10 0) <|
    .st (.act none (.px (some 3) (.mv (.c (.bool false))))) .done) (.ret)
@[simp] def W180_13 := @C.wpe _ _ K180_13.eq_1
def K180_14 : C := .cond 10 (.v 14) K180_13 (.skip)
@[simp] def W180_14 := @C.wpe _ _ K180_14.eq_1
def K180_15 : C := .seq (.seq (.pl <| .st (.ext 10 5) <|
    .st (.act none (.px (some 10) (.mv (.v 0)))) <|
    .st (.act none (.px (some 11) (.lenV (.v 10)))) <|
    .st (.act none (.px (some 12) (.mv (.v 1)))) <|
    .st (.act none (.px (some 13) (.lenV (.v 12)))) <|
    .st (.act none (.px (some 14) (.bin .neq (.v 11) (.v 13)))) .done) K180_14) K180_12
@[simp] def W180_15 := @C.wpe _ _ K180_15.eq_1
def B_slices_EqualFunc_S_impl_Expr_S_impl_Expr_impl_Expr_impl_Expr : C := .seq (.pl <| .st (.ext 10 0) <|
    .st (.act none (.px (some 3) (.mv (.c (.bool false))))) .done) K180_15
@[simp] def WB_slices_EqualFunc_S_impl_Expr_S_impl_Expr_impl_Expr_impl_Expr := @C.wpe _ _ B_slices_EqualFunc_S_impl_Expr_S_impl_Expr_impl_Expr_impl_Expr.eq_1
def R_slices_EqualFunc_S_impl_Expr_S_impl_Expr_impl_Expr_impl_Expr : FIR := ⟨B_slices_EqualFunc_S_impl_Expr_S_impl_Expr_impl_Expr_impl_Expr, 10, [(3, none)]⟩
theorem IR_slices_EqualFunc_S_impl_Expr_S_impl_Expr_impl_Expr_impl_Expr : cfun Try.prog H_slices_EqualFunc_S_impl_Expr_S_impl_Expr_impl_Expr_impl_Expr Try.f180 = some R_slices_EqualFunc_S_impl_Expr_S_impl_Expr_impl_Expr_impl_Expr := by kernel_rfl
theorem EN_slices_EqualFunc_S_impl_Expr_S_impl_Expr_impl_Expr_impl_Expr {args : List Value} {h : Heap} {k : Value → Heap → Prop} (hargs : args.length = 3) (hw : B_slices_EqualFunc_S_impl_Expr_S_impl_Expr_impl_Expr_impl_Expr.wp Try.prog (retQ [(3, none)] k) (env0 args 10) h) : CallE Try.prog fn_slices_EqualFunc_S_impl_Expr_S_impl_Expr_impl_Expr_impl_Expr args h k := enter Try.func180 rfl IR_slices_EqualFunc_S_impl_Expr_S_impl_Expr_impl_Expr_impl_Expr hargs hw

def H_slices_IndexFunc_S_impl_Edge_impl_Edge : Hint := ⟨[(0, false), (1, false), (4, false), (5, false), (7, false), (8, false)], [[2, 3]]⟩
def K149_1 : C := .seq (.pl <| .st (.ext 6 0) <|
    .st (.act none (.px (some 2) (.mv (.c (.int .i64 (-1)))))) .done) (.ret)
@[simp] def W149_1 := @C.wpe _ _ K149_1.eq_1
def K149_2 : C := .pl <| .st (.ext 6 1) <|
    .st (.act none (.px (some 6) (.bin .add (.v 5) (.c (.int .i64 1))))) <|
    .st (.act none (.px (some 5) (.mv (.v 6)))) .done
@[simp] def W149_2 := @C.wpe _ _ K149_2.eq_1
def K149_3 : C := .seq (.pl <| .st (.ext 6 1) <|
    .st (.act none (.px (some 6) (.mv (.v 3)))) <|
    .st (.act none (.px (some 2) (.mv (.v 6)))) .done) (.ret)
@[simp] def W149_3 := @C.wpe _ _ K149_3.eq_1
def K149_4 : C := .cond 6 (.v 11) K149_3 (.skip)
@[simp] def W149_4 := @C.wpe _ _ K149_4.eq_1
def K149_5 : C := .seq (.pl <| .st (.ext 6 6) <|
    .st (.act none (.px (some 6) (.mv (.v 1)))) <|
    .st (.act none (.px (some 7) (.mv (.v 0)))) <|
    .st (.act none (.px (some 8) (.mv (.v 3)))) <|
    .st (.act none (.px (some 9) (.ia 10 (.v 7) (.v 8)))) <|
    .st (.act none (.ld (some 10) (.v 9) (some 10))) <|
    .st (.act none (.ex (some 11) (.callv (.v 6) [.v 10]))) .done) K149_4
@[simp] def W149_5 := @C.wpe _ _ K149_5.eq_1
def K149_6 : C := .seq (.block 1 (.seq (.pl <| .st (.ext 6 1) <|
    .st (.act none (.px (some 6) (.mv (.v 5)))) <|
    .st (.act none (.px (some 3) (.mv (.v 6)))) .done) K149_5)) K149_2
@[simp] def W149_6 := @C.wpe _ _ K149_6.eq_1
def K149_7 : C := .seq (.cond 6 (.v 6) (.skip) (.exit 0)) K149_6
@[simp] def W149_7 := @C.wpe _ _ K149_7.eq_1
def K149_8 : C := .seq (.pl <| .st (.ext 6 1) <|
    .st (.act none (.px (some 6) (.bin .lss (.v 5) (.v 4)))) .done) K149_7
@[simp] def W149_8 := @C.wpe _ _ K149_8.eq_1
def K149_9 : C := .block 0 (.loop 6 [2, 3] K149_8)
@[simp] def W149_9 := @C.wpe _ _ K149_9.eq_1
def K149_10 : C := .seq (.seq (.pl <| .st (.ext 6 1) <|
    .st (.act none (.px (some 6) (.mv (.v 0)))) <|
    .st (.act none (.px (some 4) (.lenV (.v 6)))) <|
    .st (.act none (.px (some 5) (.mv (.c (.int .i64 0))))) .done) K149_9) K149_1
@[simp] def W149_10 := @C.wpe _ _ K149_10.eq_1
def B_slices_IndexFunc_S_impl_Edge_impl_Edge : C := .seq (.pl <| .st (.ext 6 0) <|
    .st (.act none (.px (some 2) (.mv (.c (.int .i64 0))))) .done) K149_10
@[simp] def WB_slices_IndexFunc_S_impl_Edge_impl_Edge := @C.wpe _ _ B_slices_IndexFunc_S_impl_Edge_impl_Edge.eq_1
def R_slices_IndexFunc_S_impl_Edge_impl_Edge : FIR := ⟨B_slices_IndexFunc_S_impl_Edge_impl_Edge, 6, [(2, none)]⟩
theorem IR_slices_IndexFunc_S_impl_Edge_impl_Edge : cfun Try.prog H_slices_IndexFunc_S_impl_Edge_impl_Edge Try.f149 = some R_slices_IndexFunc_S_impl_Edge_impl_Edge := by kernel_rfl
theorem EN_slices_IndexFunc_S_impl_Edge_impl_Edge {args : List Value} {h : Heap} {k : Value → Heap → Prop} (hargs : args.length = 2) (hw : B_slices_IndexFunc_S_impl_Edge_impl_Edge.wp Try.prog (retQ [(2, none)] k) (env0 args 6) h) : CallE Try.prog fn_slices_IndexFunc_S_impl_Edge_impl_Edge args h k := enter Try.func149 rfl IR_slices_IndexFunc_S_impl_Edge_impl_Edge hargs hw

def H_slices_IndexFunc_S_impl_Expr_impl_Expr : Hint := ⟨[(0, false), (1, false), (4, false), (5, false), (7, false), (8, false)], [[2, 3]]⟩
def K157_1 : C := .seq (.pl <| .st (.ext 6 0) <|
    .st (.act none (.px (some 2) (.mv (.c (.int .i64 (-1)))))) .done) (.ret)
@[simp] def W157_1 := @C.wpe _ _ K157_1.eq_1
def K157_2 : C := .pl <| .st (.ext 6 1) <|
    .st (.act none (.px (some 6) (.bin .add (.v 5) (.c (.int .i64 1))))) <|
    .st (.act none (.px (some 5) (.mv (.v 6)))) .done
@[simp] def W157_2 := @C.wpe _ _ K157_2.eq_1
def K157_3 : C := .seq (.pl <| .st (.ext 6 1) <|
    .st (.act none (.px (some 6) (.mv (.v 3)))) <|
    .st (.act none (.px (some 2) (.mv (.v 6)))) .done) (.ret)
@[simp] def W157_3 := @C.wpe _ _ K157_3.eq_1
def K157_4 : C := .cond 6 (.v 11) K157_3 (.skip)
@[simp] def W157_4 := @C.wpe _ _ K157_4.eq_1
def K157_5 : C := .seq (.pl <| .st (.ext 6 6) <|
    .st (.act none (.px (some 6) (.mv (.v 1)))) <|
    .st (.act none (.px (some 7) (.mv (.v 0)))) <|
    .st (.act none (.px (some 8) (.mv (.v 3)))) <|
    .st (.act none (.px (some 9) (.ia 3 (.v 7) (.v 8)))) <|
    .st (.act none (.ld (some 10) (.v 9) (some 3))) <|
    .st (.act none (.ex (some 11) (.callv (.v 6) [.v 10]))) .done) K157_4
@[simp] def W157_5 := @C.wpe _ _ K157_5.eq_1
def K157_6 : C := .seq (.block 1 (.seq (.pl <| .st (.ext 6 1) <|
    .st (.act none (.px (some 6) (.mv (.v 5)))) <|
    .st (.act none (.px (some 3) (.mv (.v 6)))) .done) K157_5)) K157_2
@[simp] def W157_6 := @C.wpe _ _ K157_6.eq_1
def K157_7 : C := .seq (.cond 6 (.v 6) (.skip) (.exit 0)) K157_6
@[simp] def W157_7 := @C.wpe _ _ K157_7.eq_1
def K157_8 : C := .seq (.pl <| .st (.ext 6 1) <|
    .st (.act none (.px (some 6) (.bin .lss (.v 5) (.v 4)))) .done) K157_7
@[simp] def W157_8 := @C.wpe _ _ K157_8.eq_1
def K157_9 : C := .block 0 (.loop 6 [2, 3] K157_8)
@[simp] def W157_9 := @C.wpe _ _ K157_9.eq_1
def K157_10 : C := .seq (.seq (.pl <| .st (.ext 6 1) <|
    .st (.act none (.px (some 6) (.mv (.v 0)))) <|
    .st (.act none (.px (some 4) (.lenV (.v 6)))) <|
    .st (.act none (.px (some 5) (.mv (.c (.int .i64 0))))) .done) K157_9) K157_1
@[simp] def W157_10 := @C.wpe _ _ K157_10.eq_1
def B_slices_IndexFunc_S_impl_Expr_impl_Expr : C := .seq (.pl <| .st (.ext 6 0) <|
    .st (.act none (.px (some 2) (.mv (.c (.int .i64 0))))) .done) K157_10
@[simp] def WB_slices_IndexFunc_S_impl_Expr_impl_Expr := @C.wpe _ _ B_slices_IndexFunc_S_impl_Expr_impl_Expr.eq_1
def R_slices_IndexFunc_S_impl_Expr_impl_Expr : FIR := ⟨B_slices_IndexFunc_S_impl_Expr_impl_Expr, 6, [(2, none)]⟩
theorem IR_slices_IndexFunc_S_impl_Expr_impl_Expr : cfun Try.prog H_slices_IndexFunc_S_impl_Expr_impl_Expr Try.f157 = some R_slices_IndexFunc_S_impl_Expr_impl_Expr := by kernel_rfl
theorem EN_slices_IndexFunc_S_impl_Expr_impl_Expr {args : List Value} {h : Heap} {k : Value → Heap → Prop} (hargs : args.length = 2) (hw : B_slices_IndexFunc_S_impl_Expr_impl_Expr.wp Try.prog (retQ [(2, none)] k) (env0 args 6) h) : CallE Try.prog fn_slices_IndexFunc_S_impl_Expr_impl_Expr args h k := enter Try.func157 rfl IR_slices_IndexFunc_S_impl_Expr_impl_Expr hargs hw

def H_slices_IndexFunc_S_int_int : Hint := ⟨[(0, false), (1, false), (4, false), (5, false), (7, false), (8, false)], [[2, 3]]⟩
def K181_1 : C := .seq (.pl <| .st (.ext 6 0) <|
    .st (.act none (.px (some 2) (.mv (.c (.int .i64 (-1)))))) .done) (.ret)
@[simp] def W181_1 := @C.wpe _ _ K181_1.eq_1
def K181_2 : C := .pl <| .st (.ext 6 1) <|
    .st (.act none (.px (some 6) (.bin .add (.v 5) (.c (.int .i64 1))))) <|
    .st (.act none (.px (some 5) (.mv (.v 6)))) .done
@[simp] def W181_2 := @C.wpe _ _ K181_2.eq_1
def K181_3 : C := .seq (.pl <| .st (.ext 6 1) <|
    .st (.act none (.px (some 6) (.mv (.v 3)))) <|
    .st (.act none (.px (some 2) (.mv (.v 6)))) .done) (.ret)
@[simp] def W181_3 := @C.wpe _ _ K181_3.eq_1
def K181_4 : C := .cond 6 (.v 11) K181_3 (.skip)
@[simp] def W181_4 := @C.wpe _ _ K181_4.eq_1
def K181_5 : C := .seq (.pl <| .st (.ext 6 6) <|
    .st (.act none (.px (some 6) (.mv (.v 1)))) <|
    .st (.act none (.px (some 7) (.mv (.v 0)))) <|
    .st (.act none (.px (some 8) (.mv (.v 3)))) <|
    .st (.act none (.px (some 9) (.ia 1 (.v 7) (.v 8)))) <|
    .st (.act none (.ld (some 10) (.v 9) none)) <|
    .st (.act none (.ex (some 11) (.callv (.v 6) [.v 10]))) .done) K181_4
@[simp] def W181_5 := @C.wpe _ _ K181_5.eq_1
def K181_6 : C := .seq (.block 1 (.seq (.pl <| .st (.ext 6 1) <|
    .st (.act none (.px (some 6) (.mv (.v 5)))) <|
    .st (.act none (.px (some 3) (.mv (.v 6)))) .done) K181_5)) K181_2
@[simp] def W181_6 := @C.wpe _ _ K181_6.eq_1
def K181_7 : C := .seq (.cond 6 (.v 6) (.skip) (.exit 0)) K181_6
@[simp] def W181_7 := @C.wpe _ _ K181_7.eq_1
def K181_8 : C := .seq (.pl <| .st (.ext 6 1) <|
    .st (.act none (.px (some 6) (.bin .lss (.v 5) (.v 4)))) .done) K181_7
@[simp] def W181_8 := @C.wpe _ _ K181_8.eq_1
def K181_9 : C := .block 0 (.loop 6 [2, 3] K181_8)
@[simp] def W181_9 := @C.wpe _ _ K181_9.eq_1
def K181_10 : C := .seq (.seq (.pl <| .st (.ext 6 1) <|
    .st (.act none (.px (some 6) (.mv (.v 0)))) <|
    .st (.act none (.px (some 4) (.lenV (.v 6)))) <|
    .st (.act none (.px (some 5) (.mv (.c (.int .i64 0))))) .done) K181_9) K181_1
@[simp] def W181_10 := @C.wpe _ _ K181_10.eq_1
def B_slices_IndexFunc_S_int_int : C := .seq (.pl <| .st (.ext 6 0) <|
    .st (.act none (.px (some 2) (.mv (.c (.int .i64 0))))) .done) K181_10
@[simp] def WB_slices_IndexFunc_S_int_int := @C.wpe _ _ B_slices_IndexFunc_S_int_int.eq_1
def R_slices_IndexFunc_S_int_int : FIR := ⟨B_slices_IndexFunc_S_int_int, 6, [(2, none)]⟩
theorem IR_slices_IndexFunc_S_int_int : cfun Try.prog H_slices_IndexFunc_S_int_int Try.f181 = some R_slices_IndexFunc_S_int_int := by kernel_rfl
theorem EN_slices_IndexFunc_S_int_int {args : List Value} {h : Heap} {k : Value → Heap → Prop} (hargs : args.length = 2) (hw : B_slices_IndexFunc_S_int_int.wp Try.prog (retQ [(2, none)] k) (env0 args 6) h) : CallE Try.prog fn_slices_IndexFunc_S_int_int args h k := enter Try.func181 rfl IR_slices_IndexFunc_S_int_int hargs hw

def H_slices_Index_S_impl_Step_impl_Step : Hint := ⟨[(0, false), (1, false), (3, true), (4, false), (5, false), (7, false), (8, false)], [[1, 3, 4]]⟩
def K139_1 : C := .seq (.pl <| .st (.ext 7 0) <|
    .st (.act none (.px (some 3) (.mv (.c (.int .i64 (-1)))))) .done) (.ret)
@[simp] def W139_1 := @C.wpe _ _ K139_1.eq_1
def K139_2 : C := .pl <| .st (.ext 7 1) <|
    .st (.act none (.px (some 7) (.bin .add (.v 6) (.c (.int .i64 1))))) <|
    .st (.act none (.px (some 6) (.mv (.v 7)))) .done
@[simp] def W139_2 := @C.wpe _ _ K139_2.eq_1
def K139_3 : C := .seq (.pl <| .st (.ext 7 1) <|
    .st (.act none (.px (some 7) (.mv (.v 4)))) <|
    .st (.act none (.px (some 3) (.mv (.v 7)))) .done) (.ret)
@[simp] def W139_3 := @C.wpe _ _ K139_3.eq_1
def K139_4 : C := .cond 7 (.v 12) K139_3 (.skip)
@[simp] def W139_4 := @C.wpe _ _ K139_4.eq_1
def K139_5 : C := .seq (.pl <| .st (.ext 7 6) <|
    .st (.act none (.pget (some 7) none 2 0 (some 4))) <|
    .st (.act none (.px (some 8) (.mv (.v 0)))) <|
    .st (.act none (.px (some 9) (.mv (.v 4)))) <|
    .st (.act none (.px (some 10) (.ia 4 (.v 8) (.v 9)))) <|
    .st (.act none (.ld (some 11) (.v 10) (some 4))) <|
    .st (.act none (.px (some 12) (.eqf false [.i, .i, .i, .i] (.v 7) (.v 11)))) .done) K139_4
@[simp] def W139_5 := @C.wpe _ _ K139_5.eq_1
def K139_6 : C := .seq (.block 1 (.seq (.pl <| .st (.ext 7 1) <|
    .st (.act none (.px (some 7) (.mv (.v 6)))) <|
    .st (.act none (.px (some 4) (.mv (.v 7)))) .done) K139_5)) K139_2
@[simp] def W139_6 := @C.wpe _ _ K139_6.eq_1
def K139_7 : C := .seq (.cond 7 (.v 7) (.skip) (.exit 0)) K139_6
@[simp] def W139_7 := @C.wpe _ _ K139_7.eq_1
def K139_8 : C := .seq (.pl <| .st (.ext 7 1) <|
    .st (.act none (.px (some 7) (.bin .lss (.v 6) (.v 5)))) .done) K139_7
@[simp] def W139_8 := @C.wpe _ _ K139_8.eq_1
def K139_9 : C := .block 0 (.loop 7 [1, 3, 4] K139_8)
@[simp] def W139_9 := @C.wpe _ _ K139_9.eq_1
def K139_10 : C := .seq (.seq (.pl <| .st (.ext 7 1) <|
    .st (.act none (.px (some 7) (.mv (.v 0)))) <|
    .st (.act none (.px (some 5) (.lenV (.v 7)))) <|
    .st (.act none (.px (some 6) (.mv (.c (.int .i64 0))))) .done) K139_9) K139_1
@[simp] def W139_10 := @C.wpe _ _ K139_10.eq_1
def B_slices_Index_S_impl_Step_impl_Step : C := .seq (.pl <| .st (.ext 7 0) <|
    .st (.act none (.pnew 2 (.v 1) [])) <|
    .st (.act none (.px (some 3) (.mv (.c (.int .i64 0))))) .done) K139_10
@[simp] def WB_slices_Index_S_impl_Step_impl_Step := @C.wpe _ _ B_slices_Index_S_impl_Step_impl_Step.eq_1
def R_slices_Index_S_impl_Step_impl_Step : FIR := ⟨B_slices_Index_S_impl_Step_impl_Step, 7, [(3, none)]⟩
theorem IR_slices_Index_S_impl_Step_impl_Step : cfun Try.prog H_slices_Index_S_impl_Step_impl_Step Try.f139 = some R_slices_Index_S_impl_Step_impl_Step := by kernel_rfl
theorem EN_slices_Index_S_impl_Step_impl_Step {args : List Value} {h : Heap} {k : Value → Heap → Prop} (hargs : args.length = 2) (hw : B_slices_Index_S_impl_Step_impl_Step.wp Try.prog (retQ [(3, none)] k) (env0 args 7) h) : CallE Try.prog fn_slices_Index_S_impl_Step_impl_Step args h k := enter Try.func139 rfl IR_slices_Index_S_impl_Step_impl_Step hargs hw

def H_spec_ApplyStep : Hint := ⟨[(0, false), (1, false), (2, false), (3, true), (4, true), (5, true), (6, true), (7, false), (8, false), (9, false)], [[0, 1, 2, 7]]⟩
def K43_1 : C := .seq (.pl <| .st (.ext 10 1) <|
    .st (.act none (.px (some 10) (.build [.slice none 0 0, .slice none 0 0] []))) <|
    .st (.act none (.pset none 6 0 2 (.v 10))) <|
    .st (.act none (.px (some 7) (.mv (.c (.bool false))))) .done) (.ret)
@[simp] def W43_1 := @C.wpe _ _ K43_1.eq_1
def K43_2 : C := .pl <| .st (.ext 10 2) <|
    .st (.act none (.px (some 10) (.mv (.v 9)))) <|
    .st (.act none (.px (some 11) (.bin .add (.v 10) (.c (.int .i64 1))))) <|
    .st (.act none (.px (some 9) (.mv (.v 11)))) .done
@[simp] def W43_2 := @C.wpe _ _ K43_2.eq_1
def K43_3 : Pl := .st (.act none (.pset none 6 0 2 (.v 13))) <|
    .st (.act none (.px (some 7) (.mv (.c (.bool true))))) .done
@[simp] def W43_3 := @Pl.wpe _ _ K43_3.eq_1
def K43_4 : C := .seq (.pl <| .st (.ext 10 4) <|
    .st (.act none (.pget (some 10) none 3 0 (some 2))) <|
    .st (.act none (.pget (some 11) none 4 0 (some 2))) <|
    .st (.act none (.pget (some 12) none 5 0 (some 4))) <|
    .st (.act none (.ex (some 13) (.call fn_spec_l3Apply [.v 10, .v 11, .v 12]))) K43_3) (.ret)
@[simp] def W43_4 := @C.wpe _ _ K43_4.eq_1
def K43_5 : C := .cond 10 (.v 15) K43_4 (.skip)
@[simp] def W43_5 := @C.wpe _ _ K43_5.eq_1
def K43_6 : C := .seq (.block 1 (.seq (.pl <| .st (.ext 10 6) <|
    .st (.act none (.px (some 10) (.mv (.v 8)))) <|
    .st (.act none (.px (some 11) (.mv (.v 9)))) <|
    .st (.act none (.px (some 12) (.ia 4 (.v 10) (.v 11)))) <|
    .st (.act none (.ld (some 13) (.v 12) (some 4))) <|
    .st (.act none (.pget (some 14) none 5 0 (some 4))) <|
    .st (.act none (.px (some 15) (.eqf false [.i, .i, .i, .i] (.v 13) (.v 14)))) .done) K43_5)) K43_2
@[simp] def W43_6 := @C.wpe _ _ K43_6.eq_1
def K43_7 : C := .cond 10 (.v 13) (.skip) (.exit 0)
@[simp] def W43_7 := @C.wpe _ _ K43_7.eq_1
def K43_8 : C := .seq (.seq (.pl <| .st (.ext 10 4) <|
    .st (.act none (.px (some 10) (.mv (.v 9)))) <|
    .st (.act none (.px (some 11) (.mv (.v 8)))) <|
    .st (.act none (.px (some 12) (.lenV (.v 11)))) <|
    .st (.act none (.px (some 13) (.bin .lss (.v 10) (.v 12)))) .done) K43_7) K43_6
@[simp] def W43_8 := @C.wpe _ _ K43_8.eq_1
def K43_9 : C := .block 0 (.loop 10 [0, 1, 2, 7] K43_8)
@[simp] def W43_9 := @C.wpe _ _ K43_9.eq_1
def K43_10 : C := .seq (.seq (.pl <| .st (.ext 10 0) <|
    .st (.act none (.px (some 9) (.mv (.c (.int .i64 0))))) .done) K43_9) K43_1
@[simp] def W43_10 := @C.wpe _ _ K43_10.eq_1
def K43_11 : Pl := .st (.act none (.px (some 8) (.mv (.v 12)))) .done
@[simp] def W43_11 := @Pl.wpe _ _ K43_11.eq_1
def K43_12 : C := .seq (.pl <| .st (.ext 10 3) <|
    .st (.act none (.pget (some 10) none 3 0 (some 2))) <|
    .st (.act none (.pget (some 11) none 4 0 (some 2))) <|
    .st (.act none (.ex (some 12) (.call fn_spec_EnabledSteps [.v 10, .v 11]))) K43_11) K43_10
@[simp] def W43_12 := @C.wpe _ _ K43_12.eq_1
def B_spec_ApplyStep : C := .seq (.pl <| .st (.ext 10 0) <|
    .st (.act none (.pnew 3 (.v 0) [])) <|
    .st (.act none (.pnew 4 (.v 1) [])) <|
    .st (.act none (.pnew 5 (.v 2) [])) <|
    .st (.act none (.pnew 6 (.c (.agg #[.slice none 0 0, .slice none 0 0])) [])) <|
    .st (.act none (.px (some 7) (.mv (.c (.bool false))))) .done) K43_12
@[simp] def WB_spec_ApplyStep := @C.wpe _ _ B_spec_ApplyStep.eq_1
def R_spec_ApplyStep : FIR := ⟨B_spec_ApplyStep, 10, [(6, some (some 2)), (7, none)]⟩
theorem IR_spec_ApplyStep : cfun Try.prog H_spec_ApplyStep Try.f43 = some R_spec_ApplyStep := by kernel_rfl
theorem EN_spec_ApplyStep {args : List Value} {h : Heap} {k : Value → Heap → Prop} (hargs : args.length = 3) (hw : B_spec_ApplyStep.wp Try.prog (retQ [(6, some (some 2)), (7, none)] k) (env0 args 10) h) : CallE Try.prog fn_spec_ApplyStep args h k := enter Try.func43 rfl IR_spec_ApplyStep hargs hw

def H_spec_EdgeValid : Hint := ⟨[(0, false), (1, false), (2, true), (4, false)], []⟩
def K153_1 : Pl := .st (.act (some (.v 12, false)) (.px (some 20) (.pick (.v 16) (.v 19) (.c (.bool false))))) <|
    .st (.act none (.px (some 21) (.pick (.v 12) (.c (.bool true)) (.v 20)))) <|
    .st (.act none (.px (some 3) (.mv (.v 21)))) .done
@[simp] def W153_1 := @Pl.wpe _ _ K153_1.eq_1
def K153_2 : Pl := .st (.act none (.px (some 11) (.pick (.v 7) (.v 10) (.c (.bool false))))) <|
    .st (.act none (.px (some 12) (.mv (.v 11)))) <|
    .st (.act (some (.v 12, false)) (.als 13 none 2)) <|
    .st (.act (some (.v 12, false)) (.pget (some 14) (some 13) 2 5 none)) <|
    .st (.act (some (.v 12, false)) (.px (some 15) (.bin .geq (.v 14) (.c (.int .i64 0))))) <|
    .st (.act (some (.v 12, false)) (.px (some 16) (.mv (.v 15)))) <|
    .st (.act (some (.v 16, true)) (.als 17 none 2)) <|
    .st (.act (some (.v 16, true)) (.pget (some 18) (some 17) 2 6 (some 3))) <|
    .st (.act (some (.v 16, true)) (.ex (some 19) (.call fn_spec_ExprValid [.v 18]))) K153_1
@[simp] def W153_2 := @Pl.wpe _ _ K153_2.eq_1
def K153_3 : C := .seq (.pl <| .st (.ext 4 18) <|
    .st (.act none (.als 4 none 2)) <|
    .st (.act none (.pget (some 5) (some 4) 2 5 none)) <|
    .st (.act none (.px (some 6) (.bin .lss (.v 5) (.c (.int .i64 0))))) <|
    .st (.act none (.px (some 7) (.mv (.v 6)))) <|
    .st (.act (some (.v 7, true)) (.als 8 none 2)) <|
    .st (.act (some (.v 7, true)) (.pget (some 9) (some 8) 2 6 (some 3))) <|
    .st (.act (some (.v 7, true)) (.ex (some 10) (.call fn_spec_l2None [.v 9]))) K153_2) (.ret)
@[simp] def W153_3 := @C.wpe _ _ K153_3.eq_1
def K153_4 : C := .seq (.pl <| .st (.ext 4 0) <|
    .st (.act none (.px (some 3) (.mv (.c (.bool false))))) .done) (.ret)
@[simp] def W153_4 := @C.wpe _ _ K153_4.eq_1
def K153_5 : C := .cond 4 (.v 21) K153_4 (.skip)
@[simp] def W153_5 := @C.wpe _ _ K153_5.eq_1
def K153_6 : C := .seq (.seq (.pl <| .st (.ext 4 18) <|
    .st (.act none (.als 4 none 2)) <|
    .st (.act none (.pget (some 5) (some 4) 2 9 none)) <|
    .st (.act none (.px (some 6) (.bin .lss (.v 5) (.c (.int .i64 (-2)))))) <|
    .st (.act none (.px (some 7) (.mv (.v 6)))) <|
    .st (.act (some (.v 7, false)) (.als 8 none 2)) <|
    .st (.act (some (.v 7, false)) (.pget (some 9) (some 8) 2 9 none)) <|
    .st (.act (some (.v 7, false)) (.px (some 10) (.bin .gtr (.v 9) (.c (.int .i64 2))))) <|
    .st (.act none (.px (some 11) (.pick (.v 7) (.c (.bool true)) (.v 10)))) <|
    .st (.act none (.px (some 12) (.mv (.v 11)))) <|
    .st (.act (some (.v 12, false)) (.als 13 none 2)) <|
    .st (.act (some (.v 12, false)) (.pget (some 14) (some 13) 2 5 none)) <|
    .st (.act (some (.v 12, false)) (.px (some 15) (.bin .lss (.v 14) (.c (.int .i64 (-1)))))) <|
    .st (.act none (.px (some 16) (.pick (.v 12) (.c (.bool true)) (.v 15)))) <|
    .st (.act none (.px (some 17) (.mv (.v 16)))) <|
    .st (.act (some (.v 17, false)) (.als 18 none 2)) <|
    .st (.act (some (.v 17, false)) (.pget (some 19) (some 18) 2 5 none)) <|
    .st (.act (some (.v 17, false)) (.px (some 20) (.bin .geq (.v 19) (.c (.int .i64 3))))) <|
    .st (.act none (.px (some 21) (.pick (.v 17) (.c (.bool true)) (.v 20)))) .done) K153_5) K153_3
@[simp] def W153_6 := @C.wpe _ _ K153_6.eq_1
def K153_7 : C := .seq (.pl <| .st (.ext 4 0) <|
    .st (.act none (.px (some 3) (.mv (.c (.bool false))))) .done) (.ret)
@[simp] def W153_7 := @C.wpe _ _ K153_7.eq_1
def K153_8 : C := .cond 4 (.v 33) K153_7 (.skip)
@[simp] def W153_8 := @C.wpe _ _ K153_8.eq_1
def K153_9 : Pl := .st (.act (some (.v 28, false)) (.px (some 32) (.un .not (.v 31)))) <|
    .st (.act none (.px (some 33) (.pick (.v 28) (.c (.bool true)) (.v 32)))) .done
@[simp] def W153_9 := @Pl.wpe _ _ K153_9.eq_1
def K153_10 : C := .seq (.seq (.pl <| .st (.ext 4 30) <|
    .st (.act none (.als 4 none 2)) <|
    .st (.act none (.pget (some 5) (some 4) 2 0 none)) <|
    .st (.act none (.px (some 6) (.bin .lss (.v 5) (.c (.int .i64 0))))) <|
    .st (.act none (.px (some 7) (.mv (.v 6)))) <|
    .st (.act (some (.v 7, false)) (.als 8 none 2)) <|
    .st (.act (some (.v 7, false)) (.pget (some 9) (some 8) 2 0 none)) <|
    .st (.act (some (.v 7, false)) (.px (some 10) (.mv (.v 1)))) <|
    .st (.act (some (.v 7, false)) (.px (some 11) (.bin .geq (.v 9) (.v 10)))) <|
    .st (.act none (.px (some 12) (.pick (.v 7) (.c (.bool true)) (.v 11)))) <|
    .st (.act none (.px (some 13) (.mv (.v 12)))) <|
    .st (.act (some (.v 13, false)) (.als 14 none 2)) <|
    .st (.act (some (.v 13, false)) (.pget (some 15) (some 14) 2 1 none)) <|
    .st (.act (some (.v 13, false)) (.px (some 16) (.bin .lss (.v 15) (.c (.int .i64 0))))) <|
    .st (.act none (.px (some 17) (.pick (.v 13) (.c (.bool true)) (.v 16)))) <|
    .st (.act none (.px (some 18) (.mv (.v 17)))) <|
    .st (.act (some (.v 18, false)) (.als 19 none 2)) <|
    .st (.act (some (.v 18, false)) (.pget (some 20) (some 19) 2 1 none)) <|
    .st (.act (some (.v 18, false)) (.px (some 21) (.mv (.v 1)))) <|
    .st (.act (some (.v 18, false)) (.px (some 22) (.bin .geq (.v 20) (.v 21)))) <|
    .st (.act none (.px (some 23) (.pick (.v 18) (.c (.bool true)) (.v 22)))) <|
    .st (.act none (.px (some 24) (.mv (.v 23)))) <|
    .st (.act (some (.v 24, false)) (.px (some 25) (.mv (.v 1)))) <|
    .st (.act (some (.v 24, false)) (.px (some 26) (.bin .gtr (.v 25) (.c (.int .i64 4))))) <|
    .st (.act none (.px (some 27) (.pick (.v 24) (.c (.bool true)) (.v 26)))) <|
    .st (.act none (.px (some 28) (.mv (.v 27)))) <|
    .st (.act (some (.v 28, false)) (.als 29 none 2)) <|
    .st (.act (some (.v 28, false)) (.pget (some 30) (some 29) 2 2 (some 3))) <|
    .st (.act (some (.v 28, false)) (.ex (some 31) (.call fn_spec_ExprValid [.v 30]))) K153_9) K153_8) K153_6
@[simp] def W153_10 := @C.wpe _ _ K153_10.eq_1
def B_spec_EdgeValid : C := .seq (.pl <| .st (.ext 4 0) <|
    .st (.act none (.pnew 2 (.v 0) [])) <|
    .st (.act none (.px (some 3) (.mv (.c (.bool false))))) .done) K153_10
@[simp] def WB_spec_EdgeValid := @C.wpe _ _ B_spec_EdgeValid.eq_1
def R_spec_EdgeValid : FIR := ⟨B_spec_EdgeValid, 4, [(3, none)]⟩
theorem IR_spec_EdgeValid : cfun Try.prog H_spec_EdgeValid Try.f153 = some R_spec_EdgeValid := by kernel_rfl
theorem EN_spec_EdgeValid {args : List Value} {h : Heap} {k : Value → Heap → Prop} (hargs : args.length = 2) (hw : B_spec_EdgeValid.wp Try.prog (retQ [(3, none)] k) (env0 args 4) h) : CallE Try.prog fn_spec_EdgeValid args h k := enter Try.func153 rfl IR_spec_EdgeValid hargs hw

def H_spec_EnabledSteps : Hint := ⟨[(0, false), (1, false), (2, true), (3, true), (4, false)], []⟩
def K89_1 : Pl := .st (.act none (.px (some 4) (.mv (.v 7)))) .done
@[simp] def W89_1 := @Pl.wpe _ _ K89_1.eq_1
def K89_2 : C := .seq (.pl <| .st (.ext 5 3) <|
    .st (.act none (.pget (some 5) none 2 0 (some 2))) <|
    .st (.act none (.pget (some 6) none 3 0 (some 2))) <|
    .st (.act none (.ex (some 7) (.call fn_spec_l3Steps [.v 5, .v 6]))) K89_1) (.ret)
@[simp] def W89_2 := @C.wpe _ _ K89_2.eq_1
def K89_3 : Pl := .st (.act none (.px (some 4) (.mv (.v 5)))) .done
@[simp] def W89_3 := @Pl.wpe _ _ K89_3.eq_1
def K89_4 : C := .seq (.pl <| .st (.ext 5 1) <|
    .st (.act none (.ex (some 5) (.bls 4 0 [.int .i64 0, .int .i64 0, .int .i64 0, .int .i64 0] []))) K89_3) (.ret)
@[simp] def W89_4 := @C.wpe _ _ K89_4.eq_1
def K89_5 : C := .cond 5 (.v 8) K89_4 (.skip)
@[simp] def W89_5 := @C.wpe _ _ K89_5.eq_1
def K89_6 : Pl := .st (.act none (.px (some 8) (.un .not (.v 7)))) .done
@[simp] def W89_6 := @Pl.wpe _ _ K89_6.eq_1
def K89_7 : C := .seq (.seq (.pl <| .st (.ext 5 4) <|
    .st (.act none (.pget (some 5) none 2 0 (some 2))) <|
    .st (.act none (.pget (some 6) none 3 0 (some 2))) <|
    .st (.act none (.ex (some 7) (.call fn_spec_StateValid [.v 5, .v 6]))) K89_6) K89_5) K89_2
@[simp] def W89_7 := @C.wpe _ _ K89_7.eq_1
def B_spec_EnabledSteps : C := .seq (.pl <| .st (.ext 5 0) <|
    .st (.act none (.pnew 2 (.v 0) [])) <|
    .st (.act none (.pnew 3 (.v 1) [])) <|
    .st (.act none (.px (some 4) (.mv (.c (.slice none 0 0))))) .done) K89_7
@[simp] def WB_spec_EnabledSteps := @C.wpe _ _ B_spec_EnabledSteps.eq_1
def R_spec_EnabledSteps : FIR := ⟨B_spec_EnabledSteps, 5, [(4, none)]⟩
theorem IR_spec_EnabledSteps : cfun Try.prog H_spec_EnabledSteps Try.f89 = some R_spec_EnabledSteps := by kernel_rfl
theorem EN_spec_EnabledSteps {args : List Value} {h : Heap} {k : Value → Heap → Prop} (hargs : args.length = 2) (hw : B_spec_EnabledSteps.wp Try.prog (retQ [(4, none)] k) (env0 args 5) h) : CallE Try.prog fn_spec_EnabledSteps args h k := enter Try.func89 rfl IR_spec_EnabledSteps hargs hw

def H_spec_ExprValid : Hint := ⟨[(0, false), (1, true), (2, false)], []⟩
def K116_1 : Pl := .st (.act (some (.v 5, true)) (.px (some 8) (.bin .leq (.v 7) (.c (.int .i64 15))))) <|
    .st (.act none (.px (some 9) (.pick (.v 5) (.v 8) (.c (.bool false))))) <|
    .st (.act none (.px (some 2) (.mv (.v 9)))) .done
@[simp] def W116_1 := @Pl.wpe _ _ K116_1.eq_1
def K116_2 : Pl := .st (.act none (.px (some 5) (.mv (.v 4)))) <|
    .st (.act (some (.v 5, true)) (.pget (some 6) none 1 0 (some 3))) <|
    .st (.act (some (.v 5, true)) (.ex (some 7) (.call fn_spec_l1Count [.v 6, .c (.int .i64 6)]))) K116_1
@[simp] def W116_2 := @Pl.wpe _ _ K116_2.eq_1
def K116_3 : C := .seq (.pl <| .st (.ext 3 7) <|
    .st (.act none (.pget (some 3) none 1 0 (some 3))) <|
    .st (.act none (.ex (some 4) (.call fn_spec_l1Shape [.v 3, .c (.int .i64 6)]))) K116_2) (.ret)
@[simp] def W116_3 := @C.wpe _ _ K116_3.eq_1
def B_spec_ExprValid : C := .seq (.pl <| .st (.ext 3 0) <|
    .st (.act none (.pnew 1 (.v 0) [])) <|
    .st (.act none (.px (some 2) (.mv (.c (.bool false))))) .done) K116_3
@[simp] def WB_spec_ExprValid := @C.wpe _ _ B_spec_ExprValid.eq_1
def R_spec_ExprValid : FIR := ⟨B_spec_ExprValid, 3, [(2, none)]⟩
theorem IR_spec_ExprValid : cfun Try.prog H_spec_ExprValid Try.f116 = some R_spec_ExprValid := by kernel_rfl
theorem EN_spec_ExprValid {args : List Value} {h : Heap} {k : Value → Heap → Prop} (hargs : args.length = 1) (hw : B_spec_ExprValid.wp Try.prog (retQ [(2, none)] k) (env0 args 3) h) : CallE Try.prog fn_spec_ExprValid args h k := enter Try.func116 rfl IR_spec_ExprValid hargs hw

def H_spec_StateValid : Hint := ⟨[(0, false), (1, false), (2, true), (3, true), (4, false), (5, false)], [[0, 1, 4]]⟩
def K83_1 : C := .seq (.pl <| .st (.ext 6 0) <|
    .st (.act none (.px (some 4) (.mv (.c (.bool true))))) .done) (.ret)
@[simp] def W83_1 := @C.wpe _ _ K83_1.eq_1
def K83_2 : C := .pl <| .st (.ext 6 2) <|
    .st (.act none (.px (some 6) (.mv (.v 5)))) <|
    .st (.act none (.px (some 7) (.bin .add (.v 6) (.c (.int .i64 1))))) <|
    .st (.act none (.px (some 5) (.mv (.v 7)))) .done
@[simp] def W83_2 := @C.wpe _ _ K83_2.eq_1
def K83_3 : C := .seq (.pl <| .st (.ext 6 0) <|
    .st (.act none (.px (some 4) (.mv (.c (.bool false))))) .done) (.ret)
@[simp] def W83_3 := @C.wpe _ _ K83_3.eq_1
def K83_4 : C := .cond 6 (.v 25) K83_3 (.skip)
@[simp] def W83_4 := @C.wpe _ _ K83_4.eq_1
def K83_5 : C := .seq (.block 1 (.seq (.pl <| .st (.ext 6 20) <|
    .st (.act none (.als 6 none 3)) <|
    .st (.act none (.pget (some 7) (some 6) 3 0 none)) <|
    .st (.act none (.px (some 8) (.mv (.v 5)))) <|
    .st (.act none (.px (some 9) (.ia 1 (.v 7) (.v 8)))) <|
    .st (.act none (.ld (some 10) (.v 9) none)) <|
    .st (.act none (.px (some 11) (.bin .lss (.v 10) (.c (.int .i64 0))))) <|
    .st (.act none (.px (some 12) (.mv (.v 11)))) <|
    .st (.act (some (.v 12, false)) (.als 13 none 3)) <|
    .st (.act (some (.v 12, false)) (.pget (some 14) (some 13) 3 0 none)) <|
    .st (.act (some (.v 12, false)) (.px (some 15) (.mv (.v 5)))) <|
    .st (.act (some (.v 12, false)) (.px (some 16) (.ia 1 (.v 14) (.v 15)))) <|
    .st (.act (some (.v 12, false)) (.ld (some 17) (.v 16) none)) <|
    .st (.act (some (.v 12, false)) (.als 18 none 2)) <|
    .st (.act (some (.v 12, false)) (.pget (some 19) (some 18) 2 1 none)) <|
    .st (.act (some (.v 12, false)) (.px (some 20) (.mv (.v 5)))) <|
    .st (.act (some (.v 12, false)) (.px (some 21) (.ia 2 (.v 19) (.v 20)))) <|
    .st (.act (some (.v 12, false)) (.px (some 22) (.fa 0 (.v 21)))) <|
    .st (.act (some (.v 12, false)) (.ld (some 23) (.v 22) none)) <|
    .st (.act (some (.v 12, false)) (.px (some 24) (.bin .geq (.v 17) (.v 23)))) <|
    .st (.act none (.px (some 25) (.pick (.v 12) (.c (.bool true)) (.v 24)))) .done) K83_4)) K83_2
@[simp] def W83_5 := @C.wpe _ _ K83_5.eq_1
def K83_6 : C := .cond 6 (.v 10) (.skip) (.exit 0)
@[simp] def W83_6 := @C.wpe _ _ K83_6.eq_1
def K83_7 : C := .seq (.seq (.pl <| .st (.ext 6 5) <|
    .st (.act none (.px (some 6) (.mv (.v 5)))) <|
    .st (.act none (.als 7 none 3)) <|
    .st (.act none (.pget (some 8) (some 7) 3 0 none)) <|
    .st (.act none (.px (some 9) (.lenV (.v 8)))) <|
    .st (.act none (.px (some 10) (.bin .lss (.v 6) (.v 9)))) .done) K83_6) K83_5
@[simp] def W83_7 := @C.wpe _ _ K83_7.eq_1
def K83_8 : C := .block 0 (.loop 6 [0, 1, 4] K83_7)
@[simp] def W83_8 := @C.wpe _ _ K83_8.eq_1
def K83_9 : C := .seq (.seq (.pl <| .st (.ext 6 0) <|
    .st (.act none (.px (some 5) (.mv (.c (.int .i64 0))))) .done) K83_8) K83_1
@[simp] def W83_9 := @C.wpe _ _ K83_9.eq_1
def K83_10 : C := .seq (.pl <| .st (.ext 6 0) <|
    .st (.act none (.px (some 4) (.mv (.c (.bool false))))) .done) (.ret)
@[simp] def W83_10 := @C.wpe _ _ K83_10.eq_1
def K83_11 : C := .cond 6 (.v 23) K83_10 (.skip)
@[simp] def W83_11 := @C.wpe _ _ K83_11.eq_1
def K83_12 : Pl := .st (.act (some (.v 18, false)) (.px (some 22) (.un .not (.v 21)))) <|
    .st (.act none (.px (some 23) (.pick (.v 18) (.c (.bool true)) (.v 22)))) .done
@[simp] def W83_12 := @Pl.wpe _ _ K83_12.eq_1
def K83_13 : Pl := .st (.act none (.px (some 8) (.un .not (.v 7)))) <|
    .st (.act none (.px (some 9) (.mv (.v 8)))) <|
    .st (.act (some (.v 9, false)) (.als 10 none 3)) <|
    .st (.act (some (.v 9, false)) (.pget (some 11) (some 10) 3 0 none)) <|
    .st (.act (some (.v 9, false)) (.px (some 12) (.lenV (.v 11)))) <|
    .st (.act (some (.v 9, false)) (.als 13 none 2)) <|
    .st (.act (some (.v 9, false)) (.pget (some 14) (some 13) 2 1 none)) <|
    .st (.act (some (.v 9, false)) (.px (some 15) (.lenV (.v 14)))) <|
    .st (.act (some (.v 9, false)) (.px (some 16) (.bin .neq (.v 12) (.v 15)))) <|
    .st (.act none (.px (some 17) (.pick (.v 9) (.c (.bool true)) (.v 16)))) <|
    .st (.act none (.px (some 18) (.mv (.v 17)))) <|
    .st (.act (some (.v 18, false)) (.als 19 none 3)) <|
    .st (.act (some (.v 18, false)) (.pget (some 20) (some 19) 3 1 none)) <|
    .st (.act (some (.v 18, false)) (.ex (some 21) (.call fn_spec_l1Vals [.v 20]))) K83_12
@[simp] def W83_13 := @Pl.wpe _ _ K83_13.eq_1
def K83_14 : C := .seq (.seq (.pl <| .st (.ext 6 18) <|
    .st (.act none (.pget (some 6) none 2 0 (some 2))) <|
    .st (.act none (.ex (some 7) (.call fn_spec_SystemValid [.v 6]))) K83_13) K83_11) K83_9
@[simp] def W83_14 := @C.wpe _ _ K83_14.eq_1
def B_spec_StateValid : C := .seq (.pl <| .st (.ext 6 0) <|
    .st (.act none (.pnew 2 (.v 0) [])) <|
    .st (.act none (.pnew 3 (.v 1) [])) <|
    .st (.act none (.px (some 4) (.mv (.c (.bool false))))) .done) K83_14
@[simp] def WB_spec_StateValid := @C.wpe _ _ B_spec_StateValid.eq_1
def R_spec_StateValid : FIR := ⟨B_spec_StateValid, 6, [(4, none)]⟩
theorem IR_spec_StateValid : cfun Try.prog H_spec_StateValid Try.f83 = some R_spec_StateValid := by kernel_rfl
theorem EN_spec_StateValid {args : List Value} {h : Heap} {k : Value → Heap → Prop} (hargs : args.length = 2) (hw : B_spec_StateValid.wp Try.prog (retQ [(4, none)] k) (env0 args 6) h) : CallE Try.prog fn_spec_StateValid args h k := enter Try.func83 rfl IR_spec_StateValid hargs hw

def H_spec_SystemValid : Hint := ⟨[(0, false), (1, true), (2, false), (3, false)], [[0, 2]]⟩
def K60_1 : Pl := .st (.act none (.px (some 7) (.mv (.v 6)))) <|
    .st (.act (some (.v 7, true)) (.als 8 none 1)) <|
    .st (.act (some (.v 7, true)) (.pget (some 9) (some 8) 1 1 none)) <|
    .st (.act (some (.v 7, true)) (.px (some 10) (.lenV (.v 9)))) <|
    .st (.act (some (.v 7, true)) (.px (some 11) (.bin .geq (.v 10) (.c (.int .i64 1))))) <|
    .st (.act none (.px (some 12) (.pick (.v 7) (.v 11) (.c (.bool false))))) <|
    .st (.act none (.px (some 13) (.mv (.v 12)))) <|
    .st (.act (some (.v 13, true)) (.als 14 none 1)) <|
    .st (.act (some (.v 13, true)) (.pget (some 15) (some 14) 1 1 none)) <|
    .st (.act (some (.v 13, true)) (.px (some 16) (.lenV (.v 15)))) <|
    .st (.act (some (.v 13, true)) (.px (some 17) (.bin .leq (.v 16) (.c (.int .i64 3))))) <|
    .st (.act none (.px (some 18) (.pick (.v 13) (.v 17) (.c (.bool false))))) <|
    .st (.act none (.px (some 2) (.mv (.v 18)))) .done
@[simp] def W60_1 := @Pl.wpe _ _ K60_1.eq_1
def K60_2 : C := .seq (.pl <| .st (.ext 4 15) <|
    .st (.act none (.als 4 none 1)) <|
    .st (.act none (.pget (some 5) (some 4) 1 0 none)) <|
    .st (.act none (.ex (some 6) (.call fn_spec_l1Vals [.v 5]))) K60_1) (.ret)
@[simp] def W60_2 := @C.wpe _ _ K60_2.eq_1
def K60_3 : C := .pl <| .st (.ext 4 2) <|
    .st (.act none (.px (some 4) (.mv (.v 3)))) <|
    .st (.act none (.px (some 5) (.bin .add (.v 4) (.c (.int .i64 1))))) <|
    .st (.act none (.px (some 3) (.mv (.v 5)))) .done
@[simp] def W60_3 := @C.wpe _ _ K60_3.eq_1
def K60_4 : C := .seq (.pl <| .st (.ext 4 0) <|
    .st (.act none (.px (some 2) (.mv (.c (.bool false))))) .done) (.ret)
@[simp] def W60_4 := @C.wpe _ _ K60_4.eq_1
def K60_5 : C := .cond 4 (.v 10) K60_4 (.skip)
@[simp] def W60_5 := @C.wpe _ _ K60_5.eq_1
def K60_6 : Pl := .st (.act none (.px (some 10) (.un .not (.v 9)))) .done
@[simp] def W60_6 := @Pl.wpe _ _ K60_6.eq_1
def K60_7 : C := .seq (.block 1 (.seq (.pl <| .st (.ext 4 7) <|
    .st (.act none (.als 4 none 1)) <|
    .st (.act none (.pget (some 5) (some 4) 1 1 none)) <|
    .st (.act none (.px (some 6) (.mv (.v 3)))) <|
    .st (.act none (.px (some 7) (.ia 2 (.v 5) (.v 6)))) <|
    .st (.act none (.ld (some 8) (.v 7) (some 2))) <|
    .st (.act none (.ex (some 9) (.call fn_spec_l2Process [.v 8]))) K60_6) K60_5)) K60_3
@[simp] def W60_7 := @C.wpe _ _ K60_7.eq_1
def K60_8 : C := .cond 4 (.v 8) (.skip) (.exit 0)
@[simp] def W60_8 := @C.wpe _ _ K60_8.eq_1
def K60_9 : C := .seq (.seq (.pl <| .st (.ext 4 5) <|
    .st (.act none (.px (some 4) (.mv (.v 3)))) <|
    .st (.act none (.als 5 none 1)) <|
    .st (.act none (.pget (some 6) (some 5) 1 1 none)) <|
    .st (.act none (.px (some 7) (.lenV (.v 6)))) <|
    .st (.act none (.px (some 8) (.bin .lss (.v 4) (.v 7)))) .done) K60_8) K60_7
@[simp] def W60_9 := @C.wpe _ _ K60_9.eq_1
def K60_10 : C := .block 0 (.loop 4 [0, 2] K60_9)
@[simp] def W60_10 := @C.wpe _ _ K60_10.eq_1
def K60_11 : C := .seq (.seq (.pl <| .st (.ext 4 0) <|
    .st (.act none (.px (some 3) (.mv (.c (.int .i64 0))))) .done) K60_10) K60_2
@[simp] def W60_11 := @C.wpe _ _ K60_11.eq_1
def B_spec_SystemValid : C := .seq (.pl <| .st (.ext 4 0) <|
    .st (.act none (.pnew 1 (.v 0) [])) <|
    .st (.act none (.px (some 2) (.mv (.c (.bool false))))) .done) K60_11
@[simp] def WB_spec_SystemValid := @C.wpe _ _ B_spec_SystemValid.eq_1
def R_spec_SystemValid : FIR := ⟨B_spec_SystemValid, 4, [(2, none)]⟩
theorem IR_spec_SystemValid : cfun Try.prog H_spec_SystemValid Try.f60 = some R_spec_SystemValid := by kernel_rfl
theorem EN_spec_SystemValid {args : List Value} {h : Heap} {k : Value → Heap → Prop} (hargs : args.length = 1) (hw : B_spec_SystemValid.wp Try.prog (retQ [(2, none)] k) (env0 args 4) h) : CallE Try.prog fn_spec_SystemValid args h k := enter Try.func60 rfl IR_spec_SystemValid hargs hw

def H_spec_l1Arity : Hint := ⟨[(0, false), (2, false), (3, false), (4, false)], []⟩
def K185_1 : C := .seq (.pl <| .st (.ext 4 0) <|
    .st (.act none (.px (some 1) (.mv (.c (.int .i64 (-1)))))) .done) (.ret)
@[simp] def W185_1 := @C.wpe _ _ K185_1.eq_1
def K185_2 : C := .seq (.pl <| .st (.ext 4 0) <|
    .st (.act none (.px (some 1) (.mv (.c (.int .i64 2))))) .done) (.ret)
@[simp] def W185_2 := @C.wpe _ _ K185_2.eq_1
def K185_3 : C := .cond 4 (.v 9) K185_2 (.skip)
@[simp] def W185_3 := @C.wpe _ _ K185_3.eq_1
def K185_4 : C := .seq (.seq (.pl <| .st (.ext 4 6) <|
    .st (.act none (.px (some 4) (.mv (.v 0)))) <|
    .st (.act none (.px (some 5) (.bin .geq (.v 4) (.c (.int .i64 4))))) <|
    .st (.act none (.px (some 6) (.mv (.v 5)))) <|
    .st (.act (some (.v 6, true)) (.px (some 7) (.mv (.v 0)))) <|
    .st (.act (some (.v 6, true)) (.px (some 8) (.bin .leq (.v 7) (.c (.int .i64 9))))) <|
    .st (.act none (.px (some 9) (.pick (.v 6) (.v 8) (.c (.bool false))))) .done) K185_3) K185_1
@[simp] def W185_4 := @C.wpe _ _ K185_4.eq_1
def K185_5 : C := .seq (.pl <| .st (.ext 4 0) <|
    .st (.act none (.px (some 1) (.mv (.c (.int .i64 0))))) .done) (.ret)
@[simp] def W185_5 := @C.wpe _ _ K185_5.eq_1
def K185_6 : C := .seq (.pl <| .st (.ext 4 0) <|
    .st (.act none (.px (some 1) (.mv (.c (.int .i64 1))))) .done) (.ret)
@[simp] def W185_6 := @C.wpe _ _ K185_6.eq_1
def K185_7 : C := .cond 4 (.v 5) K185_6 (.skip)
@[simp] def W185_7 := @C.wpe _ _ K185_7.eq_1
def K185_8 : C := .seq (.pl <| .st (.ext 4 2) <|
    .st (.act none (.px (some 4) (.bin .eql (.v 2) (.c (.int .i64 3))))) <|
    .st (.act none (.px (some 5) (.mv (.v 4)))) .done) K185_7
@[simp] def W185_8 := @C.wpe _ _ K185_8.eq_1
def K185_9 : C := .cond 4 (.v 3) K185_5 K185_8
@[simp] def W185_9 := @C.wpe _ _ K185_9.eq_1
def K185_10 : C := .pl <| .st (.ext 4 1) <|
    .st (.act none (.px (some 4) (.bin .eql (.v 2) (.c (.int .i64 2))))) <|
    .st (.act none (.px (some 3) (.mv (.v 4)))) .done
@[simp] def W185_10 := @C.wpe _ _ K185_10.eq_1
def K185_11 : C := .cond 4 (.v 3) (.skip) K185_10
@[simp] def W185_11 := @C.wpe _ _ K185_11.eq_1
def K185_12 : C := .block 0 (.seq (.seq (.pl <| .st (.ext 4 1) <|
    .st (.act none (.px (some 4) (.bin .eql (.v 2) (.c (.int .i64 1))))) <|
    .st (.act none (.px (some 3) (.mv (.v 4)))) .done) K185_11) K185_9)
@[simp] def W185_12 := @C.wpe _ _ K185_12.eq_1
def K185_13 : C := .seq (.seq (.pl <| .st (.ext 4 0) <|
    .st (.act none (.px (some 2) (.mv (.v 0)))) .done) K185_12) K185_4
@[simp] def W185_13 := @C.wpe _ _ K185_13.eq_1
def B_spec_l1Arity : C := .seq (.pl <| .st (.ext 4 0) <|
    .st (.act none (.px (some 1) (.mv (.c (.int .i64 0))))) .done) K185_13
@[simp] def WB_spec_l1Arity := @C.wpe _ _ B_spec_l1Arity.eq_1
def R_spec_l1Arity : FIR := ⟨B_spec_l1Arity, 4, [(1, none)]⟩
theorem IR_spec_l1Arity : cfun Try.prog H_spec_l1Arity Try.f185 = some R_spec_l1Arity := by kernel_rfl
theorem EN_spec_l1Arity {args : List Value} {h : Heap} {k : Value → Heap → Prop} (hargs : args.length = 1) (hw : B_spec_l1Arity.wp Try.prog (retQ [(1, none)] k) (env0 args 4) h) : CallE Try.prog fn_spec_l1Arity args h k := enter Try.func185 rfl IR_spec_l1Arity hargs hw

def H_spec_l1Bool : Hint := ⟨[(0, false), (2, false)], []⟩
def K189_1 : C := .seq (.pl <| .st (.ext 2 0) <|
    .st (.act none (.px (some 1) (.mv (.c (.int .i64 0))))) .done) (.ret)
@[simp] def W189_1 := @C.wpe _ _ K189_1.eq_1
def K189_2 : C := .seq (.pl <| .st (.ext 2 0) <|
    .st (.act none (.px (some 1) (.mv (.c (.int .i64 1))))) .done) (.ret)
@[simp] def W189_2 := @C.wpe _ _ K189_2.eq_1
def K189_3 : C := .cond 2 (.v 2) K189_2 (.skip)
@[simp] def W189_3 := @C.wpe _ _ K189_3.eq_1
def K189_4 : C := .seq (.seq (.pl <| .st (.ext 2 1) <|
    .st (.act none (.px (some 2) (.mv (.v 0)))) .done) K189_3) K189_1
@[simp] def W189_4 := @C.wpe _ _ K189_4.eq_1
def B_spec_l1Bool : C := .seq (.pl <| .st (.ext 2 0) <|
    .st (.act none (.px (some 1) (.mv (.c (.int .i64 0))))) .done) K189_4
@[simp] def WB_spec_l1Bool := @C.wpe _ _ B_spec_l1Bool.eq_1
def R_spec_l1Bool : FIR := ⟨B_spec_l1Bool, 2, [(1, none)]⟩
theorem IR_spec_l1Bool : cfun Try.prog H_spec_l1Bool Try.f189 = some R_spec_l1Bool := by kernel_rfl
theorem EN_spec_l1Bool {args : List Value} {h : Heap} {k : Value → Heap → Prop} (hargs : args.length = 1) (hw : B_spec_l1Bool.wp Try.prog (retQ [(1, none)] k) (env0 args 2) h) : CallE Try.prog fn_spec_l1Bool args h k := enter Try.func189 rfl IR_spec_l1Bool hargs hw

def H_spec_l1Count : Hint := ⟨[(0, false), (1, false), (2, true), (4, false), (5, false), (6, false)], [[0, 3]]⟩
def K155_1 : C := .seq (.pl <| .st (.ext 6 1) <|
    .st (.act none (.px (some 6) (.mv (.v 4)))) <|
    .st (.act none (.px (some 3) (.mv (.v 6)))) .done) (.ret)
@[simp] def W155_1 := @C.wpe _ _ K155_1.eq_1
def K155_2 : C := .pl <| .st (.ext 6 2) <|
    .st (.act none (.px (some 6) (.mv (.v 5)))) <|
    .st (.act none (.px (some 7) (.bin .add (.v 6) (.c (.int .i64 1))))) <|
    .st (.act none (.px (some 5) (.mv (.v 7)))) .done
@[simp] def W155_2 := @C.wpe _ _ K155_2.eq_1
def K155_3 : Pl := .st (.act none (.px (some 15) (.bin .add (.v 6) (.v 14)))) <|
    .st (.act none (.px (some 4) (.mv (.v 15)))) .done
@[simp] def W155_3 := @Pl.wpe _ _ K155_3.eq_1
def K155_4 : C := .seq (.block 1 (.pl <| .st (.ext 6 10) <|
    .st (.act none (.px (some 6) (.mv (.v 4)))) <|
    .st (.act none (.als 7 none 2)) <|
    .st (.act none (.pget (some 8) (some 7) 2 2 none)) <|
    .st (.act none (.px (some 9) (.mv (.v 5)))) <|
    .st (.act none (.px (some 10) (.ia 3 (.v 8) (.v 9)))) <|
    .st (.act none (.ld (some 11) (.v 10) (some 3))) <|
    .st (.act none (.px (some 12) (.mv (.v 1)))) <|
    .st (.act none (.px (some 13) (.bin .sub (.v 12) (.c (.int .i64 1))))) <|
    .st (.act none (.ex (some 14) (.call fn_spec_l1Count [.v 11, .v 13]))) K155_3)) K155_2
@[simp] def W155_4 := @C.wpe _ _ K155_4.eq_1
def K155_5 : C := .cond 6 (.v 14) (.skip) (.exit 0)
@[simp] def W155_5 := @C.wpe _ _ K155_5.eq_1
def K155_6 : C := .seq (.seq (.pl <| .st (.ext 6 9) <|
    .st (.act none (.px (some 6) (.mv (.v 5)))) <|
    .st (.act none (.als 7 none 2)) <|
    .st (.act none (.pget (some 8) (some 7) 2 2 none)) <|
    .st (.act none (.px (some 9) (.lenV (.v 8)))) <|
    .st (.act none (.px (some 10) (.bin .lss (.v 6) (.v 9)))) <|
    .st (.act none (.px (some 11) (.mv (.v 10)))) <|
    .st (.act (some (.v 11, true)) (.px (some 12) (.mv (.v 1)))) <|
    .st (.act (some (.v 11, true)) (.px (some 13) (.bin .gtr (.v 12) (.c (.int .i64 0))))) <|
    .st (.act none (.px (some 14) (.pick (.v 11) (.v 13) (.c (.bool false))))) .done) K155_5) K155_4
@[simp] def W155_6 := @C.wpe _ _ K155_6.eq_1
def K155_7 : C := .block 0 (.loop 6 [0, 3] K155_6)
@[simp] def W155_7 := @C.wpe _ _ K155_7.eq_1
def K155_8 : C := .seq (.seq (.pl <| .st (.ext 6 0) <|
    .st (.act none (.px (some 5) (.mv (.c (.int .i64 0))))) .done) K155_7) K155_1
@[simp] def W155_8 := @C.wpe _ _ K155_8.eq_1
def K155_9 : C := .seq (.pl <| .st (.ext 6 0) <|
    .st (.act none (.px (some 4) (.mv (.c (.int .i64 1))))) .done) K155_8
@[simp] def W155_9 := @C.wpe _ _ K155_9.eq_1
def B_spec_l1Count : C := .seq (.pl <| .st (.ext 6 0) <|
    .st (.act none (.pnew 2 (.v 0) [])) <|
    .st (.act none (.px (some 3) (.mv (.c (.int .i64 0))))) .done) K155_9
@[simp] def WB_spec_l1Count := @C.wpe _ _ B_spec_l1Count.eq_1
def R_spec_l1Count : FIR := ⟨B_spec_l1Count, 6, [(3, none)]⟩
theorem IR_spec_l1Count : cfun Try.prog H_spec_l1Count Try.f155 = some R_spec_l1Count := by kernel_rfl
theorem EN_spec_l1Count {args : List Value} {h : Heap} {k : Value → Heap → Prop} (hargs : args.length = 2) (hw : B_spec_l1Count.wp Try.prog (retQ [(3, none)] k) (env0 args 6) h) : CallE Try.prog fn_spec_l1Count args h k := enter Try.func155 rfl IR_spec_l1Count hargs hw

def H_spec_l1Eval : Hint := ⟨[(0, false), (1, false), (2, true), (4, false), (5, false), (6, false), (8, false), (43, false)], []⟩
def K160_1 : C := .seq (.pl <| .st (.ext 8 6) <|
    .st (.act none (.px (some 8) (.mv (.v 4)))) <|
    .st (.act none (.px (some 9) (.mv (.v 5)))) <|
    .st (.act none (.px (some 10) (.bin .sub (.v 8) (.v 9)))) <|
    .st (.act none (.px (some 11) (.bin .add (.v 10) (.c (.int .i64 3))))) <|
    .st (.act none (.px (some 12) (.bin .add (.v 11) (.c (.int .i64 1))))) <|
    .st (.act none (.px (some 13) (.bin .rem (.v 12) (.c (.int .i64 4))))) <|
    .st (.act none (.px (some 3) (.mv (.v 13)))) .done) (.ret)
@[simp] def W160_1 := @C.wpe _ _ K160_1.eq_1
def K160_2 : Pl := .st (.act none (.px (some 3) (.mv (.v 14)))) .done
@[simp] def W160_2 := @Pl.wpe _ _ K160_2.eq_1
def K160_3 : C := .seq (.pl <| .st (.ext 8 7) <|
    .st (.act none (.px (some 8) (.mv (.v 4)))) <|
    .st (.act none (.px (some 9) (.bin .neq (.v 8) (.c (.int .i64 0))))) <|
    .st (.act none (.px (some 10) (.mv (.v 9)))) <|
    .st (.act (some (.v 10, true)) (.px (some 11) (.mv (.v 5)))) <|
    .st (.act (some (.v 10, true)) (.px (some 12) (.bin .neq (.v 11) (.c (.int .i64 0))))) <|
    .st (.act none (.px (some 13) (.pick (.v 10) (.v 12) (.c (.bool false))))) <|
    .st (.act none (.ex (some 14) (.call fn_spec_l1Bool [.v 13]))) K160_2) (.ret)
@[simp] def W160_3 := @C.wpe _ _ K160_3.eq_1
def K160_4 : Pl := .st (.act none (.px (some 3) (.mv (.v 14)))) .done
@[simp] def W160_4 := @Pl.wpe _ _ K160_4.eq_1
def K160_5 : C := .seq (.pl <| .st (.ext 8 7) <|
    .st (.act none (.px (some 8) (.mv (.v 4)))) <|
    .st (.act none (.px (some 9) (.bin .neq (.v 8) (.c (.int .i64 0))))) <|
    .st (.act none (.px (some 10) (.mv (.v 9)))) <|
    .st (.act (some (.v 10, false)) (.px (some 11) (.mv (.v 5)))) <|
    .st (.act (some (.v 10, false)) (.px (some 12) (.bin .neq (.v 11) (.c (.int .i64 0))))) <|
    .st (.act none (.px (some 13) (.pick (.v 10) (.c (.bool true)) (.v 12)))) <|
    .st (.act none (.ex (some 14) (.call fn_spec_l1Bool [.v 13]))) K160_4) (.ret)
@[simp] def W160_5 := @C.wpe _ _ K160_5.eq_1
def K160_6 : Pl := .st (.act none (.px (some 3) (.mv (.v 11)))) .done
@[simp] def W160_6 := @Pl.wpe _ _ K160_6.eq_1
def K160_7 : C := .seq (.pl <| .st (.ext 8 4) <|
    .st (.act none (.px (some 8) (.mv (.v 4)))) <|
    .st (.act none (.px (some 9) (.mv (.v 5)))) <|
    .st (.act none (.px (some 10) (.bin .eql (.v 8) (.v 9)))) <|
    .st (.act none (.ex (some 11) (.call fn_spec_l1Bool [.v 10]))) K160_6) (.ret)
@[simp] def W160_7 := @C.wpe _ _ K160_7.eq_1
def K160_8 : Pl := .st (.act none (.px (some 3) (.mv (.v 11)))) .done
@[simp] def W160_8 := @Pl.wpe _ _ K160_8.eq_1
def K160_9 : C := .seq (.pl <| .st (.ext 8 4) <|
    .st (.act none (.px (some 8) (.mv (.v 4)))) <|
    .st (.act none (.px (some 9) (.mv (.v 5)))) <|
    .st (.act none (.px (some 10) (.bin .lss (.v 8) (.v 9)))) <|
    .st (.act none (.ex (some 11) (.call fn_spec_l1Bool [.v 10]))) K160_8) (.ret)
@[simp] def W160_9 := @C.wpe _ _ K160_9.eq_1
def K160_10 : C := .seq (.pl <| .st (.ext 8 4) <|
    .st (.act none (.px (some 8) (.mv (.v 4)))) <|
    .st (.act none (.px (some 9) (.mv (.v 5)))) <|
    .st (.act none (.px (some 10) (.bin .add (.v 8) (.v 9)))) <|
    .st (.act none (.px (some 11) (.bin .rem (.v 10) (.c (.int .i64 4))))) <|
    .st (.act none (.px (some 3) (.mv (.v 11)))) .done) (.ret)
@[simp] def W160_10 := @C.wpe _ _ K160_10.eq_1
def K160_11 : C := .cond 8 (.v 9) K160_10 (.skip)
@[simp] def W160_11 := @C.wpe _ _ K160_11.eq_1
def K160_12 : C := .seq (.pl <| .st (.ext 8 2) <|
    .st (.act none (.px (some 8) (.bin .eql (.v 7) (.c (.int .i64 8))))) <|
    .st (.act none (.px (some 9) (.mv (.v 8)))) .done) K160_11
@[simp] def W160_12 := @C.wpe _ _ K160_12.eq_1
def K160_13 : C := .cond 8 (.v 9) K160_9 K160_12
@[simp] def W160_13 := @C.wpe _ _ K160_13.eq_1
def K160_14 : C := .seq (.pl <| .st (.ext 8 2) <|
    .st (.act none (.px (some 8) (.bin .eql (.v 7) (.c (.int .i64 7))))) <|
    .st (.act none (.px (some 9) (.mv (.v 8)))) .done) K160_13
@[simp] def W160_14 := @C.wpe _ _ K160_14.eq_1
def K160_15 : C := .cond 8 (.v 9) K160_7 K160_14
@[simp] def W160_15 := @C.wpe _ _ K160_15.eq_1
def K160_16 : C := .seq (.pl <| .st (.ext 8 2) <|
    .st (.act none (.px (some 8) (.bin .eql (.v 7) (.c (.int .i64 6))))) <|
    .st (.act none (.px (some 9) (.mv (.v 8)))) .done) K160_15
@[simp] def W160_16 := @C.wpe _ _ K160_16.eq_1
def K160_17 : C := .cond 8 (.v 9) K160_5 K160_16
@[simp] def W160_17 := @C.wpe _ _ K160_17.eq_1
def K160_18 : C := .seq (.pl <| .st (.ext 8 2) <|
    .st (.act none (.px (some 8) (.bin .eql (.v 7) (.c (.int .i64 5))))) <|
    .st (.act none (.px (some 9) (.mv (.v 8)))) .done) K160_17
@[simp] def W160_18 := @C.wpe _ _ K160_18.eq_1
def K160_19 : C := .cond 8 (.v 9) K160_3 K160_18
@[simp] def W160_19 := @C.wpe _ _ K160_19.eq_1
def K160_20 : C := .block 1 (.seq (.pl <| .st (.ext 8 2) <|
    .st (.act none (.px (some 8) (.bin .eql (.v 7) (.c (.int .i64 4))))) <|
    .st (.act none (.px (some 9) (.mv (.v 8)))) .done) K160_19)
@[simp] def W160_20 := @C.wpe _ _ K160_20.eq_1
def K160_21 : C := .seq (.seq (.pl <| .st (.ext 8 1) <|
    .st (.act none (.als 8 none 2)) <|
    .st (.act none (.pget (some 7) (some 8) 2 0 none)) .done) K160_20) K160_1
@[simp] def W160_21 := @C.wpe _ _ K160_21.eq_1
def K160_22 : Pl := .st (.act none (.px (some 5) (.mv (.v 13)))) .done
@[simp] def W160_22 := @Pl.wpe _ _ K160_22.eq_1
def K160_23 : C := .seq (.pl <| .st (.ext 8 6) <|
    .st (.act none (.als 8 none 2)) <|
    .st (.act none (.pget (some 9) (some 8) 2 2 none)) <|
    .st (.act none (.px (some 10) (.ia 3 (.v 9) (.c (.int .i64 1))))) <|
    .st (.act none (.ld (some 11) (.v 10) (some 3))) <|
    .st (.act none (.px (some 12) (.mv (.v 1)))) <|
    .st (.act none (.ex (some 13) (.call fn_spec_l1Eval [.v 11, .v 12]))) K160_22) K160_21
@[simp] def W160_23 := @C.wpe _ _ K160_23.eq_1
def K160_24 : Pl := .st (.act none (.px (some 4) (.mv (.v 13)))) .done
@[simp] def W160_24 := @Pl.wpe _ _ K160_24.eq_1
def K160_25 : C := .seq (.pl <| .st (.ext 8 6) <|
    .st (.act none (.als 8 none 2)) <|
    .st (.act none (.pget (some 9) (some 8) 2 2 none)) <|
    .st (.act none (.px (some 10) (.ia 3 (.v 9) (.c (.int .i64 0))))) <|
    .st (.act none (.ld (some 11) (.v 10) (some 3))) <|
    .st (.act none (.px (some 12) (.mv (.v 1)))) <|
    .st (.act none (.ex (some 13) (.call fn_spec_l1Eval [.v 11, .v 12]))) K160_24) K160_23
@[simp] def W160_25 := @C.wpe _ _ K160_25.eq_1
def K160_26 : C := .seq (.pl <| .st (.ext 8 2) <|
    .st (.act none (.als 8 none 2)) <|
    .st (.act none (.pget (some 9) (some 8) 2 1 none)) <|
    .st (.act none (.px (some 3) (.mv (.v 9)))) .done) (.ret)
@[simp] def W160_26 := @C.wpe _ _ K160_26.eq_1
def K160_27 : C := .seq (.pl <| .st (.ext 8 5) <|
    .st (.act none (.px (some 8) (.mv (.v 1)))) <|
    .st (.act none (.als 9 none 2)) <|
    .st (.act none (.pget (some 10) (some 9) 2 1 none)) <|
    .st (.act none (.px (some 11) (.ia 1 (.v 8) (.v 10)))) <|
    .st (.act none (.ld (some 12) (.v 11) none)) <|
    .st (.act none (.px (some 3) (.mv (.v 12)))) .done) (.ret)
@[simp] def W160_27 := @C.wpe _ _ K160_27.eq_1
def K160_28 : Pl := .st (.act none (.px (some 3) (.mv (.v 15)))) .done
@[simp] def W160_28 := @Pl.wpe _ _ K160_28.eq_1
def K160_29 : Pl := .st (.act none (.px (some 14) (.bin .eql (.v 13) (.c (.int .i64 0))))) <|
    .st (.act none (.ex (some 15) (.call fn_spec_l1Bool [.v 14]))) K160_28
@[simp] def W160_29 := @Pl.wpe _ _ K160_29.eq_1
def K160_30 : C := .seq (.pl <| .st (.ext 8 8) <|
    .st (.act none (.als 8 none 2)) <|
    .st (.act none (.pget (some 9) (some 8) 2 2 none)) <|
    .st (.act none (.px (some 10) (.ia 3 (.v 9) (.c (.int .i64 0))))) <|
    .st (.act none (.ld (some 11) (.v 10) (some 3))) <|
    .st (.act none (.px (some 12) (.mv (.v 1)))) <|
    .st (.act none (.ex (some 13) (.call fn_spec_l1Eval [.v 11, .v 12]))) K160_29) (.ret)
@[simp] def W160_30 := @C.wpe _ _ K160_30.eq_1
def K160_31 : C := .cond 8 (.v 9) K160_30 (.skip)
@[simp] def W160_31 := @C.wpe _ _ K160_31.eq_1
def K160_32 : C := .seq (.pl <| .st (.ext 8 2) <|
    .st (.act none (.px (some 8) (.bin .eql (.v 6) (.c (.int .i64 3))))) <|
    .st (.act none (.px (some 9) (.mv (.v 8)))) .done) K160_31
@[simp] def W160_32 := @C.wpe _ _ K160_32.eq_1
def K160_33 : C := .cond 8 (.v 9) K160_27 K160_32
@[simp] def W160_33 := @C.wpe _ _ K160_33.eq_1
def K160_34 : C := .seq (.pl <| .st (.ext 8 2) <|
    .st (.act none (.px (some 8) (.bin .eql (.v 6) (.c (.int .i64 2))))) <|
    .st (.act none (.px (some 9) (.mv (.v 8)))) .done) K160_33
@[simp] def W160_34 := @C.wpe _ _ K160_34.eq_1
def K160_35 : C := .cond 8 (.v 9) K160_26 K160_34
@[simp] def W160_35 := @C.wpe _ _ K160_35.eq_1
def K160_36 : C := .block 0 (.seq (.pl <| .st (.ext 8 2) <|
    .st (.act none (.px (some 8) (.bin .eql (.v 6) (.c (.int .i64 1))))) <|
    .st (.act none (.px (some 9) (.mv (.v 8)))) .done) K160_35)
@[simp] def W160_36 := @C.wpe _ _ K160_36.eq_1
def K160_37 : C := .seq (.seq (.pl <| .st (.ext 8 1) <|
    .st (.act none (.als 8 none 2)) <|
    .st (.act none (.pget (some 6) (some 8) 2 0 none)) .done) K160_36) K160_25
@[simp] def W160_37 := @C.wpe _ _ K160_37.eq_1
def B_spec_l1Eval : C := .seq (.pl <| .st (.ext 8 0) <|
    .st (.act none (.pnew 2 (.v 0) [])) <|
    .st (.act none (.px (some 3) (.mv (.c (.int .i64 0))))) .done) K160_37
@[simp] def WB_spec_l1Eval := @C.wpe _ _ B_spec_l1Eval.eq_1
def R_spec_l1Eval : FIR := ⟨B_spec_l1Eval, 8, [(3, none)]⟩
theorem IR_spec_l1Eval : cfun Try.prog H_spec_l1Eval Try.f160 = some R_spec_l1Eval := by kernel_rfl
theorem EN_spec_l1Eval {args : List Value} {h : Heap} {k : Value → Heap → Prop} (hargs : args.length = 2) (hw : B_spec_l1Eval.wp Try.prog (retQ [(3, none)] k) (env0 args 8) h) : CallE Try.prog fn_spec_l1Eval args h k := enter Try.func160 rfl IR_spec_l1Eval hargs hw

def H_spec_l1Shape : Hint := ⟨[(0, false), (1, false), (2, true), (4, false), (5, false), (6, false), (19, false)], [[0, 3, 4, 6]]⟩
def K154_1 : C := .seq (.pl <| .st (.ext 7 0) <|
    .st (.act none (.px (some 3) (.mv (.c (.bool true))))) .done) (.ret)
@[simp] def W154_1 := @C.wpe _ _ K154_1.eq_1
def K154_2 : C := .pl <| .st (.ext 7 2) <|
    .st (.act none (.px (some 7) (.mv (.v 5)))) <|
    .st (.act none (.px (some 8) (.bin .add (.v 7) (.c (.int .i64 1))))) <|
    .st (.act none (.px (some 5) (.mv (.v 8)))) .done
@[simp] def W154_2 := @C.wpe _ _ K154_2.eq_1
def K154_3 : C := .seq (.pl <| .st (.ext 7 0) <|
    .st (.act none (.px (some 3) (.mv (.c (.bool false))))) .done) (.ret)
@[simp] def W154_3 := @C.wpe _ _ K154_3.eq_1
def K154_4 : C := .cond 7 (.v 15) K154_3 (.skip)
@[simp] def W154_4 := @C.wpe _ _ K154_4.eq_1
def K154_5 : Pl := .st (.act none (.px (some 15) (.un .not (.v 14)))) .done
@[simp] def W154_5 := @Pl.wpe _ _ K154_5.eq_1
def K154_6 : C := .seq (.block 2 (.seq (.pl <| .st (.ext 7 9) <|
    .st (.act none (.als 7 none 2)) <|
    .st (.act none (.pget (some 8) (some 7) 2 2 none)) <|
    .st (.act none (.px (some 9) (.mv (.v 5)))) <|
    .st (.act none (.px (some 10) (.ia 3 (.v 8) (.v 9)))) <|
    .st (.act none (.ld (some 11) (.v 10) (some 3))) <|
    .st (.act none (.px (some 12) (.mv (.v 1)))) <|
    .st (.act none (.px (some 13) (.bin .sub (.v 12) (.c (.int .i64 1))))) <|
    .st (.act none (.ex (some 14) (.call fn_spec_l1Shape [.v 11, .v 13]))) K154_5) K154_4)) K154_2
@[simp] def W154_6 := @C.wpe _ _ K154_6.eq_1
def K154_7 : C := .cond 7 (.v 11) (.skip) (.exit 1)
@[simp] def W154_7 := @C.wpe _ _ K154_7.eq_1
def K154_8 : C := .seq (.seq (.pl <| .st (.ext 7 5) <|
    .st (.act none (.px (some 7) (.mv (.v 5)))) <|
    .st (.act none (.als 8 none 2)) <|
    .st (.act none (.pget (some 9) (some 8) 2 2 none)) <|
    .st (.act none (.px (some 10) (.lenV (.v 9)))) <|
    .st (.act none (.px (some 11) (.bin .lss (.v 7) (.v 10)))) .done) K154_7) K154_6
@[simp] def W154_8 := @C.wpe _ _ K154_8.eq_1
def K154_9 : C := .block 1 (.loop 7 [0, 3, 4, 6] K154_8)
@[simp] def W154_9 := @C.wpe _ _ K154_9.eq_1
def K154_10 : C := .seq (.seq (.pl <| .st (.ext 7 0) <|
    .st (.act none (.px (some 5) (.mv (.c (.int .i64 0))))) .done) K154_9) K154_1
@[simp] def W154_10 := @C.wpe _ _ K154_10.eq_1
def K154_11 : C := .seq (.pl <| .st (.ext 7 0) <|
    .st (.act none (.px (some 3) (.mv (.c (.bool false))))) .done) (.ret)
@[simp] def W154_11 := @C.wpe _ _ K154_11.eq_1
def K154_12 : C := .cond 7 (.v 15) K154_11 (.skip)
@[simp] def W154_12 := @C.wpe _ _ K154_12.eq_1
def K154_13 : C := .seq (.seq (.pl <| .st (.ext 7 9) <|
    .st (.act none (.als 7 none 2)) <|
    .st (.act none (.pget (some 8) (some 7) 2 1 none)) <|
    .st (.act none (.px (some 9) (.bin .lss (.v 8) (.c (.int .i64 0))))) <|
    .st (.act none (.px (some 10) (.mv (.v 9)))) <|
    .st (.act (some (.v 10, false)) (.als 11 none 2)) <|
    .st (.act (some (.v 10, false)) (.pget (some 12) (some 11) 2 1 none)) <|
    .st (.act (some (.v 10, false)) (.px (some 13) (.mv (.v 4)))) <|
    .st (.act (some (.v 10, false)) (.px (some 14) (.bin .gtr (.v 12) (.v 13)))) <|
    .st (.act none (.px (some 15) (.pick (.v 10) (.c (.bool true)) (.v 14)))) .done) K154_12) K154_10
@[simp] def W154_13 := @C.wpe _ _ K154_13.eq_1
def K154_14 : C := .pl <| .st (.ext 7 0) <|
    .st (.act none (.px (some 4) (.mv (.c (.int .i64 3))))) .done
@[simp] def W154_14 := @C.wpe _ _ K154_14.eq_1
def K154_15 : C := .pl <| .st (.ext 7 0) <|
    .st (.act none (.px (some 4) (.mv (.c (.int .i64 2))))) .done
@[simp] def W154_15 := @C.wpe _ _ K154_15.eq_1
def K154_16 : C := .cond 7 (.v 8) K154_15 (.skip)
@[simp] def W154_16 := @C.wpe _ _ K154_16.eq_1
def K154_17 : C := .seq (.pl <| .st (.ext 7 2) <|
    .st (.act none (.px (some 7) (.bin .eql (.v 6) (.c (.int .i64 2))))) <|
    .st (.act none (.px (some 8) (.mv (.v 7)))) .done) K154_16
@[simp] def W154_17 := @C.wpe _ _ K154_17.eq_1
def K154_18 : C := .cond 7 (.v 8) K154_14 K154_17
@[simp] def W154_18 := @C.wpe _ _ K154_18.eq_1
def K154_19 : C := .block 0 (.seq (.pl <| .st (.ext 7 2) <|
    .st (.act none (.px (some 7) (.bin .eql (.v 6) (.c (.int .i64 1))))) <|
    .st (.act none (.px (some 8) (.mv (.v 7)))) .done) K154_18)
@[simp] def W154_19 := @C.wpe _ _ K154_19.eq_1
def K154_20 : C := .seq (.seq (.pl <| .st (.ext 7 1) <|
    .st (.act none (.als 7 none 2)) <|
    .st (.act none (.pget (some 6) (some 7) 2 0 none)) .done) K154_19) K154_13
@[simp] def W154_20 := @C.wpe _ _ K154_20.eq_1
def K154_21 : C := .seq (.pl <| .st (.ext 7 0) <|
    .st (.act none (.px (some 4) (.mv (.c (.int .i64 0))))) .done) K154_20
@[simp] def W154_21 := @C.wpe _ _ K154_21.eq_1
def K154_22 : C := .seq (.pl <| .st (.ext 7 0) <|
    .st (.act none (.px (some 3) (.mv (.c (.bool false))))) .done) (.ret)
@[simp] def W154_22 := @C.wpe _ _ K154_22.eq_1
def K154_23 : C := .cond 7 (.v 17) K154_22 (.skip)
@[simp] def W154_23 := @C.wpe _ _ K154_23.eq_1
def K154_24 : Pl := .st (.act (some (.v 9, false)) (.px (some 16) (.bin .neq (.v 12) (.v 15)))) <|
    .st (.act none (.px (some 17) (.pick (.v 9) (.c (.bool true)) (.v 16)))) .done
@[simp] def W154_24 := @Pl.wpe _ _ K154_24.eq_1
def K154_25 : C := .seq (.seq (.pl <| .st (.ext 7 11) <|
    .st (.act none (.px (some 7) (.mv (.v 1)))) <|
    .st (.act none (.px (some 8) (.bin .lss (.v 7) (.c (.int .i64 1))))) <|
    .st (.act none (.px (some 9) (.mv (.v 8)))) <|
    .st (.act (some (.v 9, false)) (.als 10 none 2)) <|
    .st (.act (some (.v 9, false)) (.pget (some 11) (some 10) 2 2 none)) <|
    .st (.act (some (.v 9, false)) (.px (some 12) (.lenV (.v 11)))) <|
    .st (.act (some (.v 9, false)) (.als 13 none 2)) <|
    .st (.act (some (.v 9, false)) (.pget (some 14) (some 13) 2 0 none)) <|
    .st (.act (some (.v 9, false)) (.ex (some 15) (.call fn_spec_l1Arity [.v 14]))) K154_24) K154_23) K154_21
@[simp] def W154_25 := @C.wpe _ _ K154_25.eq_1
def B_spec_l1Shape : C := .seq (.pl <| .st (.ext 7 0) <|
    .st (.act none (.pnew 2 (.v 0) [])) <|
    .st (.act none (.px (some 3) (.mv (.c (.bool false))))) .done) K154_25
@[simp] def WB_spec_l1Shape := @C.wpe _ _ B_spec_l1Shape.eq_1
def R_spec_l1Shape : FIR := ⟨B_spec_l1Shape, 7, [(3, none)]⟩
theorem IR_spec_l1Shape : cfun Try.prog H_spec_l1Shape Try.f154 = some R_spec_l1Shape := by kernel_rfl
theorem EN_spec_l1Shape {args : List Value} {h : Heap} {k : Value → Heap → Prop} (hargs : args.length = 2) (hw : B_spec_l1Shape.wp Try.prog (retQ [(3, none)] k) (env0 args 7) h) : CallE Try.prog fn_spec_l1Shape args h k := enter Try.func154 rfl IR_spec_l1Shape hargs hw

def H_spec_l1Vals : Hint := ⟨[(0, false), (2, false), (3, false)], [[1]]⟩
def K115_1 : C := .seq (.pl <| .st (.ext 3 3) <|
    .st (.act none (.px (some 3) (.mv (.v 0)))) <|
    .st (.act none (.px (some 4) (.lenV (.v 3)))) <|
    .st (.act none (.px (some 5) (.bin .eql (.v 4) (.c (.int .i64 3))))) <|
    .st (.act none (.px (some 1) (.mv (.v 5)))) .done) (.ret)
@[simp] def W115_1 := @C.wpe _ _ K115_1.eq_1
def K115_2 : C := .pl <| .st (.ext 3 2) <|
    .st (.act none (.px (some 3) (.mv (.v 2)))) <|
    .st (.act none (.px (some 4) (.bin .add (.v 3) (.c (.int .i64 1))))) <|
    .st (.act none (.px (some 2) (.mv (.v 4)))) .done
@[simp] def W115_2 := @C.wpe _ _ K115_2.eq_1
def K115_3 : C := .seq (.pl <| .st (.ext 3 0) <|
    .st (.act none (.px (some 1) (.mv (.c (.bool false))))) .done) (.ret)
@[simp] def W115_3 := @C.wpe _ _ K115_3.eq_1
def K115_4 : C := .cond 3 (.v 14) K115_3 (.skip)
@[simp] def W115_4 := @C.wpe _ _ K115_4.eq_1
def K115_5 : C := .seq (.block 1 (.seq (.pl <| .st (.ext 3 12) <|
    .st (.act none (.px (some 3) (.mv (.v 0)))) <|
    .st (.act none (.px (some 4) (.mv (.v 2)))) <|
    .st (.act none (.px (some 5) (.ia 1 (.v 3) (.v 4)))) <|
    .st (.act none (.ld (some 6) (.v 5) none)) <|
    .st (.act none (.px (some 7) (.bin .lss (.v 6) (.c (.int .i64 0))))) <|
    .st (.act none (.px (some 8) (.mv (.v 7)))) <|
    .st (.act (some (.v 8, false)) (.px (some 9) (.mv (.v 0)))) <|
    .st (.act (some (.v 8, false)) (.px (some 10) (.mv (.v 2)))) <|
    .st (.act (some (.v 8, false)) (.px (some 11) (.ia 1 (.v 9) (.v 10)))) <|
    .st (.act (some (.v 8, false)) (.ld (some 12) (.v 11) none)) <|
    .st (.act (some (.v 8, false)) (.px (some 13) (.bin .gtr (.v 12) (.c (.int .i64 3))))) <|
    .st (.act none (.px (some 14) (.pick (.v 8) (.c (.bool true)) (.v 13)))) .done) K115_4)) K115_2
@[simp] def W115_5 := @C.wpe _ _ K115_5.eq_1
def K115_6 : C := .cond 3 (.v 6) (.skip) (.exit 0)
@[simp] def W115_6 := @C.wpe _ _ K115_6.eq_1
def K115_7 : C := .seq (.seq (.pl <| .st (.ext 3 4) <|
    .st (.act none (.px (some 3) (.mv (.v 2)))) <|
    .st (.act none (.px (some 4) (.mv (.v 0)))) <|
    .st (.act none (.px (some 5) (.lenV (.v 4)))) <|
    .st (.act none (.px (some 6) (.bin .lss (.v 3) (.v 5)))) .done) K115_6) K115_5
@[simp] def W115_7 := @C.wpe _ _ K115_7.eq_1
def K115_8 : C := .block 0 (.loop 3 [1] K115_7)
@[simp] def W115_8 := @C.wpe _ _ K115_8.eq_1
def K115_9 : C := .seq (.seq (.pl <| .st (.ext 3 0) <|
    .st (.act none (.px (some 2) (.mv (.c (.int .i64 0))))) .done) K115_8) K115_1
@[simp] def W115_9 := @C.wpe _ _ K115_9.eq_1
def B_spec_l1Vals : C := .seq (.pl <| .st (.ext 3 0) <|
    .st (.act none (.px (some 1) (.mv (.c (.bool false))))) .done) K115_9
@[simp] def WB_spec_l1Vals := @C.wpe _ _ B_spec_l1Vals.eq_1
def R_spec_l1Vals : FIR := ⟨B_spec_l1Vals, 3, [(1, none)]⟩
theorem IR_spec_l1Vals : cfun Try.prog H_spec_l1Vals Try.f115 = some R_spec_l1Vals := by kernel_rfl
theorem EN_spec_l1Vals {args : List Value} {h : Heap} {k : Value → Heap → Prop} (hargs : args.length = 1) (hw : B_spec_l1Vals.wp Try.prog (retQ [(1, none)] k) (env0 args 3) h) : CallE Try.prog fn_spec_l1Vals args h k := enter Try.func115 rfl IR_spec_l1Vals hargs hw

def H_spec_l2None : Hint := ⟨[(0, false), (1, true), (2, false)], []⟩
def K184_1 : C := .seq (.pl <| .st (.ext 3 14) <|
    .st (.act none (.als 3 none 1)) <|
    .st (.act none (.pget (some 4) (some 3) 1 0 none)) <|
    .st (.act none (.px (some 5) (.bin .eql (.v 4) (.c (.int .i64 0))))) <|
    .st (.act none (.px (some 6) (.mv (.v 5)))) <|
    .st (.act (some (.v 6, true)) (.als 7 none 1)) <|
    .st (.act (some (.v 6, true)) (.pget (some 8) (some 7) 1 1 none)) <|
    .st (.act (some (.v 6, true)) (.px (some 9) (.bin .eql (.v 8) (.c (.int .i64 0))))) <|
    .st (.act none (.px (some 10) (.pick (.v 6) (.v 9) (.c (.bool false))))) <|
    .st (.act none (.px (some 11) (.mv (.v 10)))) <|
    .st (.act (some (.v 11, true)) (.als 12 none 1)) <|
    .st (.act (some (.v 11, true)) (.pget (some 13) (some 12) 1 2 none)) <|
    .st (.act (some (.v 11, true)) (.px (some 14) (.lenV (.v 13)))) <|
    .st (.act (some (.v 11, true)) (.px (some 15) (.bin .eql (.v 14) (.c (.int .i64 0))))) <|
    .st (.act none (.px (some 16) (.pick (.v 11) (.v 15) (.c (.bool false))))) <|
    .st (.act none (.px (some 2) (.mv (.v 16)))) .done) (.ret)
@[simp] def W184_1 := @C.wpe _ _ K184_1.eq_1
def B_spec_l2None : C := .seq (.pl <| .st (.ext 3 0) <|
    .st (.act none (.pnew 1 (.v 0) [])) <|
    .st (.act none (.px (some 2) (.mv (.c (.bool false))))) .done) K184_1
@[simp] def WB_spec_l2None := @C.wpe _ _ B_spec_l2None.eq_1
def R_spec_l2None : FIR := ⟨B_spec_l2None, 3, [(2, none)]⟩
theorem IR_spec_l2None : cfun Try.prog H_spec_l2None Try.f184 = some R_spec_l2None := by kernel_rfl
theorem EN_spec_l2None {args : List Value} {h : Heap} {k : Value → Heap → Prop} (hargs : args.length = 1) (hw : B_spec_l2None.wp Try.prog (retQ [(2, none)] k) (env0 args 3) h) : CallE Try.prog fn_spec_l2None args h k := enter Try.func184 rfl IR_spec_l2None hargs hw

def H_spec_l2Process : Hint := ⟨[(0, false), (1, true), (2, false), (3, false)], [[0, 2]]⟩
def K114_1 : C := .seq (.pl <| .st (.ext 4 14) <|
    .st (.act none (.als 4 none 1)) <|
    .st (.act none (.pget (some 5) (some 4) 1 0 none)) <|
    .st (.act none (.px (some 6) (.bin .geq (.v 5) (.c (.int .i64 1))))) <|
    .st (.act none (.px (some 7) (.mv (.v 6)))) <|
    .st (.act (some (.v 7, true)) (.als 8 none 1)) <|
    .st (.act (some (.v 7, true)) (.pget (some 9) (some 8) 1 0 none)) <|
    .st (.act (some (.v 7, true)) (.px (some 10) (.bin .leq (.v 9) (.c (.int .i64 4))))) <|
    .st (.act none (.px (some 11) (.pick (.v 7) (.v 10) (.c (.bool false))))) <|
    .st (.act none (.px (some 12) (.mv (.v 11)))) <|
    .st (.act (some (.v 12, true)) (.als 13 none 1)) <|
    .st (.act (some (.v 12, true)) (.pget (some 14) (some 13) 1 1 none)) <|
    .st (.act (some (.v 12, true)) (.px (some 15) (.lenV (.v 14)))) <|
    .st (.act (some (.v 12, true)) (.px (some 16) (.bin .leq (.v 15) (.c (.int .i64 6))))) <|
    .st (.act none (.px (some 17) (.pick (.v 12) (.v 16) (.c (.bool false))))) <|
    .st (.act none (.px (some 2) (.mv (.v 17)))) .done) (.ret)
@[simp] def W114_1 := @C.wpe _ _ K114_1.eq_1
def K114_2 : C := .pl <| .st (.ext 4 2) <|
    .st (.act none (.px (some 4) (.mv (.v 3)))) <|
    .st (.act none (.px (some 5) (.bin .add (.v 4) (.c (.int .i64 1))))) <|
    .st (.act none (.px (some 3) (.mv (.v 5)))) .done
@[simp] def W114_2 := @C.wpe _ _ K114_2.eq_1
def K114_3 : C := .seq (.pl <| .st (.ext 4 0) <|
    .st (.act none (.px (some 2) (.mv (.c (.bool false))))) .done) (.ret)
@[simp] def W114_3 := @C.wpe _ _ K114_3.eq_1
def K114_4 : C := .cond 4 (.v 12) K114_3 (.skip)
@[simp] def W114_4 := @C.wpe _ _ K114_4.eq_1
def K114_5 : Pl := .st (.act none (.px (some 12) (.un .not (.v 11)))) .done
@[simp] def W114_5 := @Pl.wpe _ _ K114_5.eq_1
def K114_6 : C := .seq (.block 1 (.seq (.pl <| .st (.ext 4 9) <|
    .st (.act none (.als 4 none 1)) <|
    .st (.act none (.pget (some 5) (some 4) 1 1 none)) <|
    .st (.act none (.px (some 6) (.mv (.v 3)))) <|
    .st (.act none (.px (some 7) (.ia 10 (.v 5) (.v 6)))) <|
    .st (.act none (.ld (some 8) (.v 7) (some 10))) <|
    .st (.act none (.als 9 none 1)) <|
    .st (.act none (.pget (some 10) (some 9) 1 0 none)) <|
    .st (.act none (.ex (some 11) (.call fn_spec_EdgeValid [.v 8, .v 10]))) K114_5) K114_4)) K114_2
@[simp] def W114_6 := @C.wpe _ _ K114_6.eq_1
def K114_7 : C := .cond 4 (.v 8) (.skip) (.exit 0)
@[simp] def W114_7 := @C.wpe _ _ K114_7.eq_1
def K114_8 : C := .seq (.seq (.pl <| .st (.ext 4 5) <|
    .st (.act none (.px (some 4) (.mv (.v 3)))) <|
    .st (.act none (.als 5 none 1)) <|
    .st (.act none (.pget (some 6) (some 5) 1 1 none)) <|
    .st (.act none (.px (some 7) (.lenV (.v 6)))) <|
    .st (.act none (.px (some 8) (.bin .lss (.v 4) (.v 7)))) .done) K114_7) K114_6
@[simp] def W114_8 := @C.wpe _ _ K114_8.eq_1
def K114_9 : C := .block 0 (.loop 4 [0, 2] K114_8)
@[simp] def W114_9 := @C.wpe _ _ K114_9.eq_1
def K114_10 : C := .seq (.seq (.pl <| .st (.ext 4 0) <|
    .st (.act none (.px (some 3) (.mv (.c (.int .i64 0))))) .done) K114_9) K114_1
@[simp] def W114_10 := @C.wpe _ _ K114_10.eq_1
def B_spec_l2Process : C := .seq (.pl <| .st (.ext 4 0) <|
    .st (.act none (.pnew 1 (.v 0) [])) <|
    .st (.act none (.px (some 2) (.mv (.c (.bool false))))) .done) K114_10
@[simp] def WB_spec_l2Process := @C.wpe _ _ B_spec_l2Process.eq_1
def R_spec_l2Process : FIR := ⟨B_spec_l2Process, 4, [(2, none)]⟩
theorem IR_spec_l2Process : cfun Try.prog H_spec_l2Process Try.f114 = some R_spec_l2Process := by kernel_rfl
theorem EN_spec_l2Process {args : List Value} {h : Heap} {k : Value → Heap → Prop} (hargs : args.length = 1) (hw : B_spec_l2Process.wp Try.prog (retQ [(2, none)] k) (env0 args 4) h) : CallE Try.prog fn_spec_l2Process args h k := enter Try.func114 rfl IR_spec_l2Process hargs hw

def H_spec_l3Apply : Hint := ⟨[(0, false), (1, false), (2, false), (3, true), (4, true), (5, true), (6, true), (7, true)], []⟩
def K90_1 : C := .seq (.pl <| .st (.ext 8 1) <|
    .st (.act none (.pget (some 8) none 7 0 (some 2))) <|
    .st (.act none (.pset none 6 0 2 (.v 8))) .done) (.ret)
@[simp] def W90_1 := @C.wpe _ _ K90_1.eq_1
def K90_2 : Pl := .st (.act none (.pset none 7 0 2 (.v 22))) .done
@[simp] def W90_2 := @Pl.wpe _ _ K90_2.eq_1
def K90_3 : C := .pl <| .st (.ext 8 15) <|
    .st (.act none (.pget (some 8) none 7 0 (some 2))) <|
    .st (.act none (.als 9 none 5)) <|
    .st (.act none (.pget (some 10) (some 9) 5 2 none)) <|
    .st (.act none (.als 11 none 3)) <|
    .st (.act none (.pget (some 12) (some 11) 3 1 none)) <|
    .st (.act none (.als 13 none 5)) <|
    .st (.act none (.pget (some 14) (some 13) 5 2 none)) <|
    .st (.act none (.px (some 15) (.ia 2 (.v 12) (.v 14)))) <|
    .st (.act none (.px (some 16) (.fa 1 (.v 15)))) <|
    .st (.act none (.ld (some 17) (.v 16) none)) <|
    .st (.act none (.als 18 none 5)) <|
    .st (.act none (.pget (some 19) (some 18) 5 3 none)) <|
    .st (.act none (.px (some 20) (.ia 10 (.v 17) (.v 19)))) <|
    .st (.act none (.ld (some 21) (.v 20) (some 10))) <|
    .st (.act none (.ex (some 22) (.call fn_spec_l3Take [.v 8, .v 10, .v 21]))) K90_2
@[simp] def W90_3 := @C.wpe _ _ K90_3.eq_1
def K90_4 : C := .cond 8 (.v 10) K90_3 (.skip)
@[simp] def W90_4 := @C.wpe _ _ K90_4.eq_1
def K90_5 : C := .seq (.seq (.pl <| .st (.ext 8 3) <|
    .st (.act none (.als 8 none 5)) <|
    .st (.act none (.pget (some 9) (some 8) 5 2 none)) <|
    .st (.act none (.px (some 10) (.bin .geq (.v 9) (.c (.int .i64 0))))) .done) K90_4) K90_1
@[simp] def W90_5 := @C.wpe _ _ K90_5.eq_1
def K90_6 : Pl := .st (.act none (.pset none 7 0 2 (.v 22))) .done
@[simp] def W90_6 := @Pl.wpe _ _ K90_6.eq_1
def K90_7 : C := .seq (.pl <| .st (.ext 8 15) <|
    .st (.act none (.pget (some 8) none 7 0 (some 2))) <|
    .st (.act none (.als 9 none 5)) <|
    .st (.act none (.pget (some 10) (some 9) 5 0 none)) <|
    .st (.act none (.als 11 none 3)) <|
    .st (.act none (.pget (some 12) (some 11) 3 1 none)) <|
    .st (.act none (.als 13 none 5)) <|
    .st (.act none (.pget (some 14) (some 13) 5 0 none)) <|
    .st (.act none (.px (some 15) (.ia 2 (.v 12) (.v 14)))) <|
    .st (.act none (.px (some 16) (.fa 1 (.v 15)))) <|
    .st (.act none (.ld (some 17) (.v 16) none)) <|
    .st (.act none (.als 18 none 5)) <|
    .st (.act none (.pget (some 19) (some 18) 5 1 none)) <|
    .st (.act none (.px (some 20) (.ia 10 (.v 17) (.v 19)))) <|
    .st (.act none (.ld (some 21) (.v 20) (some 10))) <|
    .st (.act none (.ex (some 22) (.call fn_spec_l3Take [.v 8, .v 10, .v 21]))) K90_6) K90_5
@[simp] def W90_7 := @C.wpe _ _ K90_7.eq_1
def K90_8 : Pl := .st (.act none (.px (some 16) (.build [.slice none 0 0, .slice none 0 0] [(0, 1, .v 11), (1, 1, .v 15)]))) <|
    .st (.act none (.pset none 7 0 2 (.v 16))) .done
@[simp] def W90_8 := @Pl.wpe _ _ K90_8.eq_1
def K90_9 : Pl := .st (.act none (.ex (some 15) (.app 8 1 [.int .i64 0] (.p 0 12) (.o (.v 14))))) K90_8
@[simp] def W90_9 := @Pl.wpe _ _ K90_9.eq_1
def K90_10 : C := .seq (.pl <| .st (.ext 8 9) <|
    .st (.act none (.psl 8 [] [])) <|
    .st (.act none (.als 9 none 4)) <|
    .st (.act none (.pget (some 10) (some 9) 4 0 none)) <|
    .st (.act none (.psl 12 [] [])) <|
    .st (.act none (.als 13 none 4)) <|
    .st (.act none (.pget (some 14) (some 13) 4 1 none)) <|
    .st (.act none (.pnew 7 (.c (.agg #[.slice none 0 0, .slice none 0 0])) [])) <|
    .st (.act none (.ex (some 11) (.app 8 1 [.int .i64 0] (.p 0 8) (.o (.v 10))))) K90_9) K90_7
@[simp] def W90_10 := @C.wpe _ _ K90_10.eq_1
def B_spec_l3Apply : C := .seq (.pl <| .st (.ext 8 0) <|
    .st (.act none (.pnew 3 (.v 0) [])) <|
    .st (.act none (.pnew 4 (.v 1) [])) <|
    .st (.act none (.pnew 5 (.v 2) [])) <|
    .st (.act none (.pnew 6 (.c (.agg #[.slice none 0 0, .slice none 0 0])) [])) .done) K90_10
@[simp] def WB_spec_l3Apply := @C.wpe _ _ B_spec_l3Apply.eq_1
def R_spec_l3Apply : FIR := ⟨B_spec_l3Apply, 8, [(6, some (some 2))]⟩
theorem IR_spec_l3Apply : cfun Try.prog H_spec_l3Apply Try.f90 = some R_spec_l3Apply := by kernel_rfl
theorem EN_spec_l3Apply {args : List Value} {h : Heap} {k : Value → Heap → Prop} (hargs : args.length = 3) (hw : B_spec_l3Apply.wp Try.prog (retQ [(6, some (some 2))] k) (env0 args 8) h) : CallE Try.prog fn_spec_l3Apply args h k := enter Try.func90 rfl IR_spec_l3Apply hargs hw


end Go.Proofs.Ythgimpheeemooaa
