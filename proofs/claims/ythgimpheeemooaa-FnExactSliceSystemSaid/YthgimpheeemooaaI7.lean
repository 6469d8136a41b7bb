/-
  Bodies of functions in the small language, as a program printed them, and that each is what the translation gives.
-/
import Derived.Test.YthgimpheeemooaaI1
namespace Go.Proofs.Ythgimpheeemooaa
open Go
set_option linter.all false
set_option linter.defProp false
set_option maxRecDepth 1000000

def H_impl_clone_int : Hint := ⟨[(0, false), (2, false)], []⟩
def K131_1 : Pl := .st (.act none (.px (some 1) (.mv (.v 4)))) .done
@[simp] def W131_1 := @Pl.wpe _ _ K131_1.eq_1
def K131_2 : Pl := .st (.act none (.ex (some 4) (.call fn_slices_Clip_S_int_int [.v 3]))) K131_1
@[simp] def W131_2 := @Pl.wpe _ _ K131_2.eq_1
def K131_3 : C := .seq (.pl <| .st (.ext 2 3) <|
    .st (.act none (.px (some 2) (.mv (.v 0)))) <|
    .st (.act none (.ex (some 3) (.call fn_slices_Clone_S_int_int [.v 2]))) K131_2) (.ret)
@[simp] def W131_3 := @C.wpe _ _ K131_3.eq_1
def B_impl_clone_int : C := .seq (.pl <| .st (.ext 2 0) <|
    .st (.act none (.px (some 1) (.mv (.c (.slice none 0 0))))) .done) K131_3
@[simp] def WB_impl_clone_int := @C.wpe _ _ B_impl_clone_int.eq_1
def R_impl_clone_int : FIR := ⟨B_impl_clone_int, 2, [(1, none)]⟩
theorem IR_impl_clone_int : cfun Try.prog H_impl_clone_int Try.f131 = some R_impl_clone_int := by kernel_rfl
theorem EN_impl_clone_int {args : List Value} {h : Heap} {k : Value → Heap → Prop} (hargs : args.length = 1) (hw : B_impl_clone_int.wp Try.prog (retQ [(1, none)] k) (env0 args 2) h) : CallE Try.prog fn_impl_clone_int args h k := enter Try.func131 rfl IR_impl_clone_int hargs hw

def H_slices_Clip_S_int_int : Hint := ⟨[(0, false), (2, false)], []⟩
def K165_1 : C := .seq (.pl <| .st (.ext 2 6) <|
    .st (.act none (.px (some 2) (.mv (.v 0)))) <|
    .st (.act none (.px (some 3) (.mv (.v 0)))) <|
    .st (.act none (.px (some 4) (.lenV (.v 3)))) <|
    .st (.act none (.px (some 5) (.mv (.v 0)))) <|
    .st (.act none (.px (some 6) (.lenV (.v 5)))) <|
    .st (.act none (.px (some 7) (.sliceV 1 (.v 2) none (some (.v 4)) (some (.v 6))))) <|
    .st (.act none (.px (some 1) (.mv (.v 7)))) .done) (.ret)
@[simp] def W165_1 := @C.wpe _ _ K165_1.eq_1
def B_slices_Clip_S_int_int : C := .seq (.pl <| .st (.ext 2 0) <|
    .st (.act none (.px (some 1) (.mv (.c (.slice none 0 0))))) .done) K165_1
@[simp] def WB_slices_Clip_S_int_int := @C.wpe _ _ B_slices_Clip_S_int_int.eq_1
def R_slices_Clip_S_int_int : FIR := ⟨B_slices_Clip_S_int_int, 2, [(1, none)]⟩
theorem IR_slices_Clip_S_int_int : cfun Try.prog H_slices_Clip_S_int_int Try.f165 = some R_slices_Clip_S_int_int := by kernel_rfl
theorem EN_slices_Clip_S_int_int {args : List Value} {h : Heap} {k : Value → Heap → Prop} (hargs : args.length = 1) (hw : B_slices_Clip_S_int_int.wp Try.prog (retQ [(1, none)] k) (env0 args 2) h) : CallE Try.prog fn_slices_Clip_S_int_int args h k := enter Try.func165 rfl IR_slices_Clip_S_int_int hargs hw

def H_slices_Clone_S_int_int : Hint := ⟨[(0, false), (2, false)], []⟩
def K166_1 : Pl := .st (.act none (.px (some 1) (.mv (.v 4)))) .done
@[simp] def W166_1 := @Pl.wpe _ _ K166_1.eq_1
def K166_2 : C := .seq (.pl <| .st (.ext 2 3) <|
    .st (.act none (.psl 2 [] [])) <|
    .st (.act none (.px (some 3) (.mv (.v 0)))) <|
    .st (.act none (.ex (some 4) (.app 8 1 [.int .i64 0] (.p 0 2) (.o (.v 3))))) K166_1) (.ret)
@[simp] def W166_2 := @C.wpe _ _ K166_2.eq_1
def K166_3 : C := .seq (.pl <| .st (.ext 2 0) <|
    .st (.act none (.px (some 1) (.mv (.c (.slice none 0 0))))) .done) (.ret)
@[simp] def W166_3 := @C.wpe _ _ K166_3.eq_1
def K166_4 : C := .cond 2 (.v 3) K166_3 (.skip)
@[simp] def W166_4 := @C.wpe _ _ K166_4.eq_1
def K166_5 : C := .seq (.seq (.pl <| .st (.ext 2 2) <|
    .st (.act none (.px (some 2) (.mv (.v 0)))) <|
    .st (.act none (.px (some 3) (.isNil false (.v 2)))) .done) K166_4) K166_2
@[simp] def W166_5 := @C.wpe _ _ K166_5.eq_1
def B_slices_Clone_S_int_int : C := .seq (.pl <| .st (.ext 2 0) <|
    .st (.act none (.px (some 1) (.mv (.c (.slice none 0 0))))) .done) K166_5
@[simp] def WB_slices_Clone_S_int_int := @C.wpe _ _ B_slices_Clone_S_int_int.eq_1
def R_slices_Clone_S_int_int : FIR := ⟨B_slices_Clone_S_int_int, 2, [(1, none)]⟩
theorem IR_slices_Clone_S_int_int : cfun Try.prog H_slices_Clone_S_int_int Try.f166 = some R_slices_Clone_S_int_int := by kernel_rfl
theorem EN_slices_Clone_S_int_int {args : List Value} {h : Heap} {k : Value → Heap → Prop} (hargs : args.length = 1) (hw : B_slices_Clone_S_int_int.wp Try.prog (retQ [(1, none)] k) (env0 args 2) h) : CallE Try.prog fn_slices_Clone_S_int_int args h k := enter Try.func166 rfl IR_slices_Clone_S_int_int hargs hw


end Go.Proofs.Ythgimpheeemooaa
