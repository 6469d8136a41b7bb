/-
  More bodies of functions in the small language, as a program printed them.
-/
import Derived.Test.YthgimpheeemooaaI1
namespace Go.Proofs.Ythgimpheeemooaa
open Go
set_option linter.all false
set_option linter.defProp false
set_option maxRecDepth 1000000

def H_impl_ProjectState : Hint := ⟨[(0, false), (1, false), (2, false), (3, true), (5, true), (6, true), (7, false), (8, false), (9, false), (10, true), (11, false), (12, false), (30, false), (31, false), (32, false)], [[0, 1, 2, 4, 6, 7, 8, 10, 11]]⟩
def K36_1 : C := .seq (.pl <| .st (.ext 15 1) <|
    .st (.act none (.pget (some 15) none 9 0 (some 2))) <|
    .st (.act none (.pset none 5 0 2 (.v 15))) <|
    .st (.act none (.px (some 6) (.mv (.c (.bool true))))) .done) (.ret)
@[simp] def W36_1 := @C.wpe _ _ K36_1.eq_1
def K36_2 : C := .pl <| .st (.ext 15 1) <|
    .st (.act none (.px (some 15) (.bin .add (.v 14) (.c (.int .i64 1))))) <|
    .st (.act none (.px (some 14) (.mv (.v 15)))) .done
@[simp] def W36_2 := @C.wpe _ _ K36_2.eq_1
def K36_3 : C := .pl <| .st (.ext 15 9) <|
    .st (.act none (.als 15 none 9)) <|
    .st (.act none (.pget (some 16) (some 15) 9 1 none)) <|
    .st (.act none (.px (some 17) (.mv (.v 10)))) <|
    .st (.act none (.als 18 none 3)) <|
    .st (.act none (.pget (some 19) (some 18) 3 0 none)) <|
    .st (.act none (.px (some 20) (.mv (.v 10)))) <|
    .st (.act none (.px (some 21) (.ia 1 (.v 19) (.v 20)))) <|
    .st (.act none (.ld (some 22) (.v 21) none)) <|
    .st (.act none (.px (some 23) (.ia 1 (.v 16) (.v 17)))) <|
    .st (.act none (.ex none (.store 1 (.v 23) (.v 22)))) .done
@[simp] def W36_3 := @C.wpe _ _ K36_3.eq_1
def K36_4 : C := .cond 15 (.v 16) K36_3 (.skip)
@[simp] def W36_4 := @C.wpe _ _ K36_4.eq_1
def K36_5 : C := .seq (.pl <| .st (.ext 15 2) <|
    .st (.act none (.px (some 15) (.mv (.v 11)))) <|
    .st (.act none (.px (some 16) (.un .not (.v 15)))) .done) K36_4
@[simp] def W36_5 := @C.wpe _ _ K36_5.eq_1
def K36_6 : C := .seq (.block 1 (.seq (.pl <| .st (.ext 15 3) <|
    .st (.act none (.px (some 15) (.mv (.v 14)))) <|
    .st (.act none (.px (some 16) (.ia 1 (.v 12) (.v 14)))) <|
    .st (.act none (.ld (some 17) (.v 16) none)) <|
    .st (.act none (.px (some 10) (.mv (.v 15)))) <|
    .st (.act none (.px (some 11) (.mv (.v 17)))) .done) K36_5)) K36_2
@[simp] def W36_6 := @C.wpe _ _ K36_6.eq_1
def K36_7 : C := .seq (.cond 15 (.v 15) (.skip) (.exit 0)) K36_6
@[simp] def W36_7 := @C.wpe _ _ K36_7.eq_1
def K36_8 : C := .seq (.pl <| .st (.ext 15 1) <|
    .st (.act none (.px (some 15) (.bin .lss (.v 14) (.v 13)))) .done) K36_7
@[simp] def W36_8 := @C.wpe _ _ K36_8.eq_1
def K36_9 : C := .block 0 (.loop 15 [0, 1, 2, 4, 6, 7, 8, 10, 11] K36_8)
@[simp] def W36_9 := @C.wpe _ _ K36_9.eq_1
def K36_10 : C := .seq (.seq (.pl <| .st (.ext 15 0) <|
    .st (.act none (.px (some 12) (.mv (.v 7)))) <|
    .st (.act none (.px (some 13) (.lenV (.v 12)))) <|
    .st (.act none (.px (some 14) (.mv (.c (.int .i64 0))))) .done) K36_9) K36_1
@[simp] def W36_10 := @C.wpe _ _ K36_10.eq_1
def K36_11 : Pl := .st (.act none (.pnew 9 (.c (.agg #[.slice none 0 0, .slice none 0 0])) [])) <|
    .st (.act none (.pset none 9 0 2 (.v 16))) .done
@[simp] def W36_11 := @Pl.wpe _ _ K36_11.eq_1
def K36_12 : C := .seq (.pl <| .st (.ext 15 2) <|
    .st (.act none (.pget (some 15) none 4 0 (some 2))) <|
    .st (.act none (.ex (some 16) (.call fn_impl_State_copyOf [.v 15]))) K36_11) K36_10
@[simp] def W36_12 := @C.wpe _ _ K36_12.eq_1
def K36_13 : C := .seq (.pl <| .st (.ext 15 1) <|
    .st (.act none (.px (some 15) (.build [.slice none 0 0, .slice none 0 0] []))) <|
    .st (.act none (.pset none 5 0 2 (.v 15))) <|
    .st (.act none (.px (some 6) (.mv (.c (.bool false))))) .done) (.ret)
@[simp] def W36_13 := @C.wpe _ _ K36_13.eq_1
def K36_14 : C := .cond 15 (.v 22) K36_13 (.skip)
@[simp] def W36_14 := @C.wpe _ _ K36_14.eq_1
def K36_15 : Pl := .st (.act (some (.v 17, false)) (.px (some 21) (.un .not (.v 20)))) <|
    .st (.act none (.px (some 22) (.pick (.v 17) (.c (.bool true)) (.v 21)))) .done
@[simp] def W36_15 := @Pl.wpe _ _ K36_15.eq_1
def K36_16 : C := .seq (.seq (.pl <| .st (.ext 15 8) <|
    .st (.act none (.px (some 15) (.mv (.v 8)))) <|
    .st (.act none (.px (some 16) (.un .not (.v 15)))) <|
    .st (.act none (.px (some 17) (.mv (.v 16)))) <|
    .st (.act (some (.v 17, false)) (.pget (some 18) none 3 0 (some 2))) <|
    .st (.act (some (.v 17, false)) (.pget (some 19) none 4 0 (some 2))) <|
    .st (.act (some (.v 17, false)) (.ex (some 20) (.call fn_impl_System_has [.v 18, .v 19]))) K36_15) K36_14) K36_12
@[simp] def W36_16 := @C.wpe _ _ K36_16.eq_1
def K36_17 : Pl := .st (.act none (.px (some 18) (.mv (.v 17)))) <|
    .st (.act none (.px (some 19) (.extract 0 (.v 18)))) <|
    .st (.act none (.px (some 20) (.extract 1 (.v 18)))) <|
    .st (.act none (.px (some 7) (.mv (.v 19)))) <|
    .st (.act none (.px (some 8) (.mv (.v 20)))) .done
@[simp] def W36_17 := @Pl.wpe _ _ K36_17.eq_1
def K36_18 : C := .seq (.pl <| .st (.ext 15 6) <|
    .st (.act none (.pget (some 15) none 3 0 (some 2))) <|
    .st (.act none (.px (some 16) (.mv (.v 1)))) <|
    .st (.act none (.ex (some 17) (.call fn_impl_RelevantVars [.v 15, .v 16]))) K36_17) K36_16
@[simp] def W36_18 := @C.wpe _ _ K36_18.eq_1
def B_impl_ProjectState : C := .seq (.pl <| .st (.ext 15 0) <|
    .st (.act none (.pnew 3 (.v 0) [])) <|
    .st (.act none (.pnew 4 (.v 2) [])) <|
    .st (.act none (.pnew 5 (.c (.agg #[.slice none 0 0, .slice none 0 0])) [])) <|
    .st (.act none (.px (some 6) (.mv (.c (.bool false))))) .done) K36_18
@[simp] def WB_impl_ProjectState := @C.wpe _ _ B_impl_ProjectState.eq_1
def R_impl_ProjectState : FIR := ⟨B_impl_ProjectState, 15, [(5, some (some 2)), (6, none)]⟩
theorem IR_impl_ProjectState : cfun Try.prog H_impl_ProjectState Try.f36 = some R_impl_ProjectState := by kernel_rfl
theorem EN_impl_ProjectState {args : List Value} {h : Heap} {k : Value → Heap → Prop} (hargs : args.length = 3) (hw : B_impl_ProjectState.wp Try.prog (retQ [(5, some (some 2)), (6, none)] k) (env0 args 15) h) : CallE Try.prog fn_impl_ProjectState args h k := enter Try.func36 rfl IR_impl_ProjectState hargs hw

def H_impl_State_copyOf : Hint := ⟨[(0, false), (1, true), (2, true)], []⟩
def K85_1 : Pl := .st (.act none (.px (some 9) (.build [.slice none 0 0, .slice none 0 0] [(0, 1, .v 5), (1, 1, .v 8)]))) <|
    .st (.act none (.pset none 2 0 2 (.v 9))) .done
@[simp] def W85_1 := @Pl.wpe _ _ K85_1.eq_1
def K85_2 : Pl := .st (.act none (.ex (some 8) (.call fn_impl_clone_int [.v 7]))) K85_1
@[simp] def W85_2 := @Pl.wpe _ _ K85_2.eq_1
def K85_3 : C := .seq (.pl <| .st (.ext 3 7) <|
    .st (.act none (.als 3 none 1)) <|
    .st (.act none (.pget (some 4) (some 3) 1 0 none)) <|
    .st (.act none (.als 6 none 1)) <|
    .st (.act none (.pget (some 7) (some 6) 1 1 none)) <|
    .st (.act none (.ex (some 5) (.call fn_impl_clone_int [.v 4]))) K85_2) (.ret)
@[simp] def W85_3 := @C.wpe _ _ K85_3.eq_1
def B_impl_State_copyOf : C := .seq (.pl <| .st (.ext 3 0) <|
    .st (.act none (.pnew 1 (.v 0) [])) <|
    .st (.act none (.pnew 2 (.c (.agg #[.slice none 0 0, .slice none 0 0])) [])) .done) K85_3
@[simp] def WB_impl_State_copyOf := @C.wpe _ _ B_impl_State_copyOf.eq_1
def R_impl_State_copyOf : FIR := ⟨B_impl_State_copyOf, 3, [(2, some (some 2))]⟩
theorem IR_impl_State_copyOf : cfun Try.prog H_impl_State_copyOf Try.f85 = some R_impl_State_copyOf := by kernel_rfl
theorem EN_impl_State_copyOf {args : List Value} {h : Heap} {k : Value → Heap → Prop} (hargs : args.length = 1) (hw : B_impl_State_copyOf.wp Try.prog (retQ [(2, some (some 2))] k) (env0 args 3) h) : CallE Try.prog fn_impl_State_copyOf args h k := enter Try.func85 rfl IR_impl_State_copyOf hargs hw

def H_impl_System_has : Hint := ⟨[(0, false), (1, false), (2, true), (3, true), (4, false), (5, false), (6, false), (21, false), (22, false), (23, false)], [[0, 1, 3, 4, 5, 6]]⟩
def K84_1 : C := .seq (.pl <| .st (.ext 10 0) <|
    .st (.act none (.px (some 4) (.mv (.c (.bool true))))) .done) (.ret)
@[simp] def W84_1 := @C.wpe _ _ K84_1.eq_1
def K84_2 : C := .pl <| .st (.ext 10 1) <|
    .st (.act none (.px (some 10) (.bin .add (.v 9) (.c (.int .i64 1))))) <|
    .st (.act none (.px (some 9) (.mv (.v 10)))) .done
@[simp] def W84_2 := @C.wpe _ _ K84_2.eq_1
def K84_3 : C := .seq (.pl <| .st (.ext 10 0) <|
    .st (.act none (.px (some 4) (.mv (.c (.bool false))))) .done) (.ret)
@[simp] def W84_3 := @C.wpe _ _ K84_3.eq_1
def K84_4 : C := .cond 10 (.v 19) K84_3 (.skip)
@[simp] def W84_4 := @C.wpe _ _ K84_4.eq_1
def K84_5 : Pl := .st (.act none (.px (some 19) (.un .not (.v 18)))) .done
@[simp] def W84_5 := @Pl.wpe _ _ K84_5.eq_1
def K84_6 : C := .seq (.pl <| .st (.ext 10 10) <|
    .st (.act none (.px (some 10) (.mv (.v 6)))) <|
    .st (.act none (.als 11 none 2)) <|
    .st (.act none (.pget (some 12) (some 11) 2 1 none)) <|
    .st (.act none (.px (some 13) (.mv (.v 5)))) <|
    .st (.act none (.px (some 14) (.ia 2 (.v 12) (.v 13)))) <|
    .st (.act none (.px (some 15) (.fa 0 (.v 14)))) <|
    .st (.act none (.ld (some 16) (.v 15) none)) <|
    .st (.act none (.px (some 17) (.bin .sub (.v 16) (.c (.int .i64 1))))) <|
    .st (.act none (.ex (some 18) (.call fn_impl_in [.v 10, .c (.int .i64 0), .v 17]))) K84_5) K84_4
@[simp] def W84_6 := @C.wpe _ _ K84_6.eq_1
def K84_7 : C := .seq (.block 1 (.seq (.pl <| .st (.ext 10 3) <|
    .st (.act none (.px (some 10) (.mv (.v 9)))) <|
    .st (.act none (.px (some 11) (.ia 1 (.v 7) (.v 9)))) <|
    .st (.act none (.ld (some 12) (.v 11) none)) <|
    .st (.act none (.px (some 5) (.mv (.v 10)))) <|
    .st (.act none (.px (some 6) (.mv (.v 12)))) .done) K84_6)) K84_2
@[simp] def W84_7 := @C.wpe _ _ K84_7.eq_1
def K84_8 : C := .seq (.cond 10 (.v 10) (.skip) (.exit 0)) K84_7
@[simp] def W84_8 := @C.wpe _ _ K84_8.eq_1
def K84_9 : C := .seq (.pl <| .st (.ext 10 1) <|
    .st (.act none (.px (some 10) (.bin .lss (.v 9) (.v 8)))) .done) K84_8
@[simp] def W84_9 := @C.wpe _ _ K84_9.eq_1
def K84_10 : C := .block 0 (.loop 10 [0, 1, 3, 4, 5, 6] K84_9)
@[simp] def W84_10 := @C.wpe _ _ K84_10.eq_1
def K84_11 : C := .seq (.seq (.pl <| .st (.ext 10 1) <|
    .st (.act none (.als 10 none 3)) <|
    .st (.act none (.pget (some 7) (some 10) 3 0 none)) <|
    .st (.act none (.px (some 8) (.lenV (.v 7)))) <|
    .st (.act none (.px (some 9) (.mv (.c (.int .i64 0))))) .done) K84_10) K84_1
@[simp] def W84_11 := @C.wpe _ _ K84_11.eq_1
def K84_12 : C := .seq (.pl <| .st (.ext 10 0) <|
    .st (.act none (.px (some 4) (.mv (.c (.bool false))))) .done) (.ret)
@[simp] def W84_12 := @C.wpe _ _ K84_12.eq_1
def K84_13 : C := .cond 10 (.v 22) K84_12 (.skip)
@[simp] def W84_13 := @C.wpe _ _ K84_13.eq_1
def K84_14 : Pl := .st (.act (some (.v 17, false)) (.px (some 21) (.un .not (.v 20)))) <|
    .st (.act none (.px (some 22) (.pick (.v 17) (.c (.bool true)) (.v 21)))) .done
@[simp] def W84_14 := @Pl.wpe _ _ K84_14.eq_1
def K84_15 : C := .seq (.seq (.pl <| .st (.ext 10 13) <|
    .st (.act none (.als 10 none 3)) <|
    .st (.act none (.pget (some 11) (some 10) 3 0 none)) <|
    .st (.act none (.px (some 12) (.lenV (.v 11)))) <|
    .st (.act none (.als 13 none 2)) <|
    .st (.act none (.pget (some 14) (some 13) 2 1 none)) <|
    .st (.act none (.px (some 15) (.lenV (.v 14)))) <|
    .st (.act none (.px (some 16) (.bin .neq (.v 12) (.v 15)))) <|
    .st (.act none (.px (some 17) (.mv (.v 16)))) <|
    .st (.act (some (.v 17, false)) (.als 18 none 3)) <|
    .st (.act (some (.v 17, false)) (.pget (some 19) (some 18) 3 1 none)) <|
    .st (.act (some (.v 17, false)) (.ex (some 20) (.call fn_impl_valsOk [.v 19]))) K84_14) K84_13) K84_11
@[simp] def W84_15 := @C.wpe _ _ K84_15.eq_1
def B_impl_System_has : C := .seq (.pl <| .st (.ext 10 0) <|
    .st (.act none (.pnew 2 (.v 0) [])) <|
    .st (.act none (.pnew 3 (.v 1) [])) <|
    .st (.act none (.px (some 4) (.mv (.c (.bool false))))) .done) K84_15
@[simp] def WB_impl_System_has := @C.wpe _ _ B_impl_System_has.eq_1
def R_impl_System_has : FIR := ⟨B_impl_System_has, 10, [(4, none)]⟩
theorem IR_impl_System_has : cfun Try.prog H_impl_System_has Try.f84 = some R_impl_System_has := by kernel_rfl
theorem EN_impl_System_has {args : List Value} {h : Heap} {k : Value → Heap → Prop} (hargs : args.length = 2) (hw : B_impl_System_has.wp Try.prog (retQ [(4, none)] k) (env0 args 10) h) : CallE Try.prog fn_impl_System_has args h k := enter Try.func84 rfl IR_impl_System_has hargs hw

def H_impl_clone_int : Hint := ⟨[(0, false), (2, false)], []⟩
def K131_1 : Pl := .st (.act none (.px (some 1) (.mv (.v 4)))) .done
@[simp] def W131_1 := @Pl.wpe _ _ K131_1.eq_1
def K131_2 : Pl := .st (.act none (.ex (some 4) (.call fn_slices_Clip_S_int_int [.v 3]))) K131_1
@[simp] def W131_2 := @Pl.wpe _ _ K131_2.eq_1
def K131_3 : C := .seq (.pl <| .st (.ext 2 3) <|
    .st (.act none (.px (some 2) (.mv (.v 0)))) <|
    .st (.act none (.ex (some 3) (.call fn_slices_Clone_S_int_int [.v 2]))) K131_2) (.ret)
@[simp] def W131_3 := @C.wpe _ _ K131_3.eq_1
def B_impl_clone_int : C := .seq (.pl <| .st (.ext 2 0) <|
    .st (.act none (.px (some 1) (.mv (.c (.slice none 0 0))))) .done) K131_3
@[simp] def WB_impl_clone_int := @C.wpe _ _ B_impl_clone_int.eq_1
def R_impl_clone_int : FIR := ⟨B_impl_clone_int, 2, [(1, none)]⟩
theorem IR_impl_clone_int : cfun Try.prog H_impl_clone_int Try.f131 = some R_impl_clone_int := by kernel_rfl
theorem EN_impl_clone_int {args : List Value} {h : Heap} {k : Value → Heap → Prop} (hargs : args.length = 1) (hw : B_impl_clone_int.wp Try.prog (retQ [(1, none)] k) (env0 args 2) h) : CallE Try.prog fn_impl_clone_int args h k := enter Try.func131 rfl IR_impl_clone_int hargs hw

def H_laws_FnExactProjectState : Hint := ⟨[(0, false), (1, false), (2, false), (3, true), (5, true), (6, false), (7, false), (8, true), (9, false), (10, true), (11, false), (12, true), (13, true), (14, false), (15, false), (16, false), (17, false), (18, true), (19, false)], []⟩
def K5_1 : C := .seq (.pl <| .st (.ext 19 0) <|
    .st (.act none (.px (some 5) (.mv (.c (.bool true))))) .done) (.ret)
@[simp] def W5_1 := @C.wpe _ _ K5_1.eq_1
def K5_2 : C := .seq (.pl <| .st (.ext 19 0) <|
    .st (.act none (.px (some 5) (.mv (.c (.bool false))))) .done) (.ret)
@[simp] def W5_2 := @C.wpe _ _ K5_2.eq_1
def K5_3 : C := .cond 19 (.v 21) K5_2 (.skip)
@[simp] def W5_3 := @C.wpe _ _ K5_3.eq_1
def K5_4 : C := .seq (.seq (.pl <| .st (.ext 19 3) <|
    .st (.act none (.px (some 19) (.mv (.v 16)))) <|
    .st (.act none (.px (some 20) (.mv (.v 15)))) <|
    .st (.act none (.px (some 21) (.bin .neq (.v 19) (.v 20)))) .done) K5_3) K5_1
@[simp] def W5_4 := @C.wpe _ _ K5_4.eq_1
def K5_5 : C := .seq (.pl <| .st (.ext 19 0) <|
    .st (.act none (.px (some 5) (.mv (.c (.bool false))))) .done) (.ret)
@[simp] def W5_5 := @C.wpe _ _ K5_5.eq_1
def K5_6 : C := .cond 19 (.v 20) K5_5 (.skip)
@[simp] def W5_6 := @C.wpe _ _ K5_6.eq_1
def K5_7 : C := .seq (.seq (.pl <| .st (.ext 19 2) <|
    .st (.act none (.px (some 19) (.mv (.v 16)))) <|
    .st (.act none (.px (some 20) (.bin .lss (.v 19) (.c (.int .i64 0))))) .done) K5_6) K5_4
@[simp] def W5_7 := @C.wpe _ _ K5_7.eq_1
def K5_8 : Pl := .st (.act none (.px (some 16) (.mv (.v 21)))) .done
@[simp] def W5_8 := @Pl.wpe _ _ K5_8.eq_1
def K5_9 : C := .seq (.pl <| .st (.ext 19 3) <|
    .st (.act none (.pget (some 19) none 12 0 (some 2))) <|
    .st (.act none (.px (some 20) (.mv (.v 16)))) <|
    .st (.act none (.ex (some 21) (.call fn_laws_heldState [.v 19, .v 20]))) K5_8) K5_7
@[simp] def W5_9 := @C.wpe _ _ K5_9.eq_1
def K5_10 : C := .seq (.pl <| .st (.ext 19 0) <|
    .st (.act none (.px (some 16) (.mv (.c (.int .i64 1))))) .done) K5_9
@[simp] def W5_10 := @C.wpe _ _ K5_10.eq_1
def K5_11 : C := .seq (.pl <| .st (.ext 19 0) <|
    .st (.act none (.px (some 5) (.mv (.c (.bool false))))) .done) (.ret)
@[simp] def W5_11 := @C.wpe _ _ K5_11.eq_1
def K5_12 : C := .cond 19 (.v 27) K5_11 (.skip)
@[simp] def W5_12 := @C.wpe _ _ K5_12.eq_1
def K5_13 : Pl := .st (.act none (.px (some 22) (.un .not (.v 21)))) <|
    .st (.act none (.px (some 23) (.mv (.v 22)))) <|
    .st (.act (some (.v 23, false)) (.px (some 24) (.mv (.v 18)))) <|
    .st (.act (some (.v 23, false)) (.px (some 25) (.mv (.v 8)))) <|
    .st (.act (some (.v 23, false)) (.px (some 26) (.eqb true (.v 24) (.v 25)))) <|
    .st (.act none (.px (some 27) (.pick (.v 23) (.c (.bool true)) (.v 26)))) .done
@[simp] def W5_13 := @Pl.wpe _ _ K5_13.eq_1
def K5_14 : C := .seq (.seq (.pl <| .st (.ext 19 9) <|
    .st (.act none (.pget (some 19) none 17 0 (some 2))) <|
    .st (.act none (.pget (some 20) none 7 0 (some 2))) <|
    .st (.act none (.ex (some 21) (.call fn_laws_eqState [.v 19, .v 20]))) K5_13) K5_12) K5_10
@[simp] def W5_14 := @C.wpe _ _ K5_14.eq_1
def K5_15 : Pl := .st (.act none (.px (some 26) (.mv (.v 25)))) <|
    .st (.act none (.px (some 27) (.extract 0 (.v 26)))) <|
    .st (.act none (.px (some 28) (.extract 1 (.v 26)))) <|
    .st (.act none (.pset none 17 0 2 (.v 27))) <|
    .st (.act none (.px (some 18) (.mv (.v 28)))) .done
@[simp] def W5_15 := @Pl.wpe _ _ K5_15.eq_1
def K5_16 : Pl := .st (.act none (.ex (some 25) (.call fn_impl_ProjectState [.v 20, .v 22, .v 24]))) K5_15
@[simp] def W5_16 := @Pl.wpe _ _ K5_16.eq_1
def K5_17 : Pl := .st (.act none (.ex (some 24) (.call fn_laws_toState [.v 23]))) K5_16
@[simp] def W5_17 := @Pl.wpe _ _ K5_17.eq_1
def K5_18 : Pl := .st (.act none (.ex (some 22) (.call fn_laws_toExprS [.v 21]))) K5_17
@[simp] def W5_18 := @Pl.wpe _ _ K5_18.eq_1
def K5_19 : C := .seq (.pl <| .st (.ext 19 10) <|
    .st (.act none (.pget (some 19) none 3 0 (some 2))) <|
    .st (.act none (.px (some 21) (.mv (.v 1)))) <|
    .st (.act none (.pget (some 23) none 4 0 (some 2))) <|
    .st (.act none (.pnew 17 (.c (.agg #[.slice none 0 0, .slice none 0 0])) [])) <|
    .st (.act none (.ex (some 20) (.call fn_laws_toSystem [.v 19]))) K5_18) K5_14
@[simp] def W5_19 := @C.wpe _ _ K5_19.eq_1
def K5_20 : C := .seq (.pl <| .st (.ext 19 0) <|
    .st (.act none (.px (some 5) (.mv (.c (.bool false))))) .done) (.ret)
@[simp] def W5_20 := @C.wpe _ _ K5_20.eq_1
def K5_21 : C := .cond 19 (.v 21) K5_20 (.skip)
@[simp] def W5_21 := @C.wpe _ _ K5_21.eq_1
def K5_22 : C := .seq (.seq (.pl <| .st (.ext 19 3) <|
    .st (.act none (.px (some 19) (.mv (.v 16)))) <|
    .st (.act none (.px (some 20) (.mv (.v 15)))) <|
    .st (.act none (.px (some 21) (.bin .neq (.v 19) (.v 20)))) .done) K5_21) K5_19
@[simp] def W5_22 := @C.wpe _ _ K5_22.eq_1
def K5_23 : C := .seq (.pl <| .st (.ext 19 0) <|
    .st (.act none (.px (some 5) (.mv (.c (.bool false))))) .done) (.ret)
@[simp] def W5_23 := @C.wpe _ _ K5_23.eq_1
def K5_24 : C := .cond 19 (.v 20) K5_23 (.skip)
@[simp] def W5_24 := @C.wpe _ _ K5_24.eq_1
def K5_25 : C := .seq (.seq (.pl <| .st (.ext 19 2) <|
    .st (.act none (.px (some 19) (.mv (.v 16)))) <|
    .st (.act none (.px (some 20) (.bin .lss (.v 19) (.c (.int .i64 0))))) .done) K5_24) K5_22
@[simp] def W5_25 := @C.wpe _ _ K5_25.eq_1
def K5_26 : Pl := .st (.act none (.px (some 16) (.mv (.v 21)))) .done
@[simp] def W5_26 := @Pl.wpe _ _ K5_26.eq_1
def K5_27 : C := .seq (.pl <| .st (.ext 19 3) <|
    .st (.act none (.pget (some 19) none 12 0 (some 2))) <|
    .st (.act none (.px (some 20) (.mv (.v 16)))) <|
    .st (.act none (.ex (some 21) (.call fn_laws_heldState [.v 19, .v 20]))) K5_26) K5_25
@[simp] def W5_27 := @C.wpe _ _ K5_27.eq_1
def K5_28 : C := .seq (.pl <| .st (.ext 19 0) <|
    .st (.act none (.px (some 16) (.mv (.c (.int .i64 1))))) .done) K5_27
@[simp] def W5_28 := @C.wpe _ _ K5_28.eq_1
def K5_29 : Pl := .st (.act none (.px (some 15) (.mv (.v 21)))) .done
@[simp] def W5_29 := @Pl.wpe _ _ K5_29.eq_1
def K5_30 : C := .seq (.pl <| .st (.ext 19 3) <|
    .st (.act none (.pget (some 19) none 12 0 (some 2))) <|
    .st (.act none (.px (some 20) (.mv (.v 15)))) <|
    .st (.act none (.ex (some 21) (.call fn_laws_markState [.v 19, .v 20]))) K5_29) K5_28
@[simp] def W5_30 := @C.wpe _ _ K5_30.eq_1
def K5_31 : C := .seq (.pl <| .st (.ext 19 0) <|
    .st (.act none (.px (some 15) (.mv (.c (.int .i64 1))))) .done) K5_30
@[simp] def W5_31 := @C.wpe _ _ K5_31.eq_1
def K5_32 : C := .seq (.pl <| .st (.ext 19 0) <|
    .st (.act none (.px (some 5) (.mv (.c (.bool false))))) .done) (.ret)
@[simp] def W5_32 := @C.wpe _ _ K5_32.eq_1
def K5_33 : C := .cond 19 (.v 31) K5_32 (.skip)
@[simp] def W5_33 := @C.wpe _ _ K5_33.eq_1
def K5_34 : Pl := .st (.act (some (.v 21, false)) (.px (some 25) (.un .not (.v 24)))) <|
    .st (.act none (.px (some 26) (.pick (.v 21) (.c (.bool true)) (.v 25)))) <|
    .st (.act none (.px (some 27) (.mv (.v 26)))) <|
    .st (.act (some (.v 27, false)) (.px (some 28) (.mv (.v 13)))) <|
    .st (.act (some (.v 27, false)) (.px (some 29) (.mv (.v 8)))) <|
    .st (.act (some (.v 27, false)) (.px (some 30) (.eqb true (.v 28) (.v 29)))) <|
    .st (.act none (.px (some 31) (.pick (.v 27) (.c (.bool true)) (.v 30)))) .done
@[simp] def W5_34 := @Pl.wpe _ _ K5_34.eq_1
def K5_35 : C := .seq (.seq (.pl <| .st (.ext 19 13) <|
    .st (.act none (.px (some 19) (.mv (.v 14)))) <|
    .st (.act none (.px (some 20) (.bin .lss (.v 19) (.c (.int .i64 0))))) <|
    .st (.act none (.px (some 21) (.mv (.v 20)))) <|
    .st (.act (some (.v 21, false)) (.pget (some 22) none 12 0 (some 2))) <|
    .st (.act (some (.v 21, false)) (.pget (some 23) none 7 0 (some 2))) <|
    .st (.act (some (.v 21, false)) (.ex (some 24) (.call fn_laws_eqState [.v 22, .v 23]))) K5_34) K5_33) K5_31
@[simp] def W5_35 := @C.wpe _ _ K5_35.eq_1
def K5_36 : Pl := .st (.act none (.px (some 14) (.mv (.v 21)))) .done
@[simp] def W5_36 := @Pl.wpe _ _ K5_36.eq_1
def K5_37 : C := .seq (.pl <| .st (.ext 19 3) <|
    .st (.act none (.pget (some 19) none 11 0 (some 2))) <|
    .st (.act none (.px (some 20) (.mv (.v 14)))) <|
    .st (.act none (.ex (some 21) (.call fn_laws_markState [.v 19, .v 20]))) K5_36) K5_35
@[simp] def W5_37 := @C.wpe _ _ K5_37.eq_1
def K5_38 : Pl := .st (.act none (.px (some 14) (.mv (.v 21)))) .done
@[simp] def W5_38 := @Pl.wpe _ _ K5_38.eq_1
def K5_39 : C := .seq (.pl <| .st (.ext 19 3) <|
    .st (.act none (.px (some 19) (.mv (.v 10)))) <|
    .st (.act none (.px (some 20) (.mv (.v 14)))) <|
    .st (.act none (.ex (some 21) (.call fn_laws_markExprS [.v 19, .v 20]))) K5_38) K5_37
@[simp] def W5_39 := @C.wpe _ _ K5_39.eq_1
def K5_40 : Pl := .st (.act none (.px (some 14) (.mv (.v 21)))) .done
@[simp] def W5_40 := @Pl.wpe _ _ K5_40.eq_1
def K5_41 : C := .seq (.pl <| .st (.ext 19 3) <|
    .st (.act none (.pget (some 19) none 9 0 (some 2))) <|
    .st (.act none (.px (some 20) (.mv (.v 14)))) <|
    .st (.act none (.ex (some 21) (.call fn_laws_markSystem [.v 19, .v 20]))) K5_40) K5_39
@[simp] def W5_41 := @C.wpe _ _ K5_41.eq_1
def K5_42 : C := .seq (.pl <| .st (.ext 19 0) <|
    .st (.act none (.px (some 14) (.mv (.c (.int .i64 1))))) .done) K5_41
@[simp] def W5_42 := @C.wpe _ _ K5_42.eq_1
def K5_43 : C := .seq (.pl <| .st (.ext 19 0) <|
    .st (.act none (.px (some 5) (.mv (.c (.bool false))))) .done) (.ret)
@[simp] def W5_43 := @C.wpe _ _ K5_43.eq_1
def K5_44 : C := .cond 19 (.v 23) K5_43 (.skip)
@[simp] def W5_44 := @C.wpe _ _ K5_44.eq_1
def K5_45 : Pl := .st (.act none (.px (some 23) (.un .not (.v 22)))) .done
@[simp] def W5_45 := @Pl.wpe _ _ K5_45.eq_1
def K5_46 : Pl := .st (.act none (.ex (some 22) (.call fn_laws_eqState [.v 19, .v 21]))) K5_45
@[simp] def W5_46 := @Pl.wpe _ _ K5_46.eq_1
def K5_47 : C := .seq (.seq (.pl <| .st (.ext 19 5) <|
    .st (.act none (.pget (some 19) none 11 0 (some 2))) <|
    .st (.act none (.pget (some 20) none 4 0 (some 2))) <|
    .st (.act none (.ex (some 21) (.call fn_laws_toState [.v 20]))) K5_46) K5_44) K5_42
@[simp] def W5_47 := @C.wpe _ _ K5_47.eq_1
def K5_48 : C := .seq (.pl <| .st (.ext 19 0) <|
    .st (.act none (.px (some 5) (.mv (.c (.bool false))))) .done) (.ret)
@[simp] def W5_48 := @C.wpe _ _ K5_48.eq_1
def K5_49 : C := .cond 19 (.v 23) K5_48 (.skip)
@[simp] def W5_49 := @C.wpe _ _ K5_49.eq_1
def K5_50 : Pl := .st (.act none (.px (some 23) (.un .not (.v 22)))) .done
@[simp] def W5_50 := @Pl.wpe _ _ K5_50.eq_1
def K5_51 : Pl := .st (.act none (.ex (some 22) (.call fn_laws_eqExprS [.v 19, .v 21]))) K5_50
@[simp] def W5_51 := @Pl.wpe _ _ K5_51.eq_1
def K5_52 : C := .seq (.seq (.pl <| .st (.ext 19 5) <|
    .st (.act none (.px (some 19) (.mv (.v 10)))) <|
    .st (.act none (.px (some 20) (.mv (.v 1)))) <|
    .st (.act none (.ex (some 21) (.call fn_laws_toExprS [.v 20]))) K5_51) K5_49) K5_47
@[simp] def W5_52 := @C.wpe _ _ K5_52.eq_1
def K5_53 : C := .seq (.pl <| .st (.ext 19 0) <|
    .st (.act none (.px (some 5) (.mv (.c (.bool false))))) .done) (.ret)
@[simp] def W5_53 := @C.wpe _ _ K5_53.eq_1
def K5_54 : C := .cond 19 (.v 23) K5_53 (.skip)
@[simp] def W5_54 := @C.wpe _ _ K5_54.eq_1
def K5_55 : Pl := .st (.act none (.px (some 23) (.un .not (.v 22)))) .done
@[simp] def W5_55 := @Pl.wpe _ _ K5_55.eq_1
def K5_56 : Pl := .st (.act none (.ex (some 22) (.call fn_laws_eqSystem [.v 19, .v 21]))) K5_55
@[simp] def W5_56 := @Pl.wpe _ _ K5_56.eq_1
def K5_57 : C := .seq (.seq (.pl <| .st (.ext 19 5) <|
    .st (.act none (.pget (some 19) none 9 0 (some 2))) <|
    .st (.act none (.pget (some 20) none 3 0 (some 2))) <|
    .st (.act none (.ex (some 21) (.call fn_laws_toSystem [.v 20]))) K5_56) K5_54) K5_52
@[simp] def W5_57 := @C.wpe _ _ K5_57.eq_1
def K5_58 : C := .seq (.pl <| .st (.ext 19 0) <|
    .st (.act none (.px (some 5) (.mv (.c (.bool false))))) .done) (.ret)
@[simp] def W5_58 := @C.wpe _ _ K5_58.eq_1
def K5_59 : C := .cond 19 (.v 27) K5_58 (.skip)
@[simp] def W5_59 := @C.wpe _ _ K5_59.eq_1
def K5_60 : Pl := .st (.act none (.px (some 22) (.un .not (.v 21)))) <|
    .st (.act none (.px (some 23) (.mv (.v 22)))) <|
    .st (.act (some (.v 23, false)) (.px (some 24) (.mv (.v 13)))) <|
    .st (.act (some (.v 23, false)) (.px (some 25) (.mv (.v 8)))) <|
    .st (.act (some (.v 23, false)) (.px (some 26) (.eqb true (.v 24) (.v 25)))) <|
    .st (.act none (.px (some 27) (.pick (.v 23) (.c (.bool true)) (.v 26)))) .done
@[simp] def W5_60 := @Pl.wpe _ _ K5_60.eq_1
def K5_61 : C := .seq (.seq (.pl <| .st (.ext 19 9) <|
    .st (.act none (.pget (some 19) none 12 0 (some 2))) <|
    .st (.act none (.pget (some 20) none 7 0 (some 2))) <|
    .st (.act none (.ex (some 21) (.call fn_laws_eqState [.v 19, .v 20]))) K5_60) K5_59) K5_57
@[simp] def W5_61 := @C.wpe _ _ K5_61.eq_1
def K5_62 : Pl := .st (.act none (.px (some 23) (.mv (.v 22)))) <|
    .st (.act none (.px (some 24) (.extract 0 (.v 23)))) <|
    .st (.act none (.px (some 25) (.extract 1 (.v 23)))) <|
    .st (.act none (.pnew 12 (.c (.agg #[.slice none 0 0, .slice none 0 0])) [])) <|
    .st (.act none (.pset none 12 0 2 (.v 24))) <|
    .st (.act none (.px (some 13) (.mv (.v 25)))) .done
@[simp] def W5_62 := @Pl.wpe _ _ K5_62.eq_1
def K5_63 : C := .seq (.pl <| .st (.ext 19 7) <|
    .st (.act none (.pget (some 19) none 9 0 (some 2))) <|
    .st (.act none (.px (some 20) (.mv (.v 10)))) <|
    .st (.act none (.pget (some 21) none 11 0 (some 2))) <|
    .st (.act none (.ex (some 22) (.call fn_impl_ProjectState [.v 19, .v 20, .v 21]))) K5_62) K5_61
@[simp] def W5_63 := @C.wpe _ _ K5_63.eq_1
def K5_64 : Pl := .st (.act none (.pnew 11 (.c (.agg #[.slice none 0 0, .slice none 0 0])) [])) <|
    .st (.act none (.pset none 11 0 2 (.v 20))) .done
@[simp] def W5_64 := @Pl.wpe _ _ K5_64.eq_1
def K5_65 : C := .seq (.pl <| .st (.ext 19 2) <|
    .st (.act none (.pget (some 19) none 4 0 (some 2))) <|
    .st (.act none (.ex (some 20) (.call fn_laws_toState [.v 19]))) K5_64) K5_63
@[simp] def W5_65 := @C.wpe _ _ K5_65.eq_1
def K5_66 : Pl := .st (.act none (.px (some 10) (.mv (.v 20)))) .done
@[simp] def W5_66 := @Pl.wpe _ _ K5_66.eq_1
def K5_67 : C := .seq (.pl <| .st (.ext 19 2) <|
    .st (.act none (.px (some 19) (.mv (.v 1)))) <|
    .st (.act none (.ex (some 20) (.call fn_laws_toExprS [.v 19]))) K5_66) K5_65
@[simp] def W5_67 := @C.wpe _ _ K5_67.eq_1
def K5_68 : Pl := .st (.act none (.pnew 9 (.c (.agg #[.slice none 0 0, .slice none 0 0])) [])) <|
    .st (.act none (.pset none 9 0 2 (.v 20))) .done
@[simp] def W5_68 := @Pl.wpe _ _ K5_68.eq_1
def K5_69 : C := .seq (.pl <| .st (.ext 19 2) <|
    .st (.act none (.pget (some 19) none 3 0 (some 2))) <|
    .st (.act none (.ex (some 20) (.call fn_laws_toSystem [.v 19]))) K5_68) K5_67
@[simp] def W5_69 := @C.wpe _ _ K5_69.eq_1
def K5_70 : Pl := .st (.act none (.px (some 26) (.mv (.v 25)))) <|
    .st (.act none (.px (some 27) (.extract 0 (.v 26)))) <|
    .st (.act none (.px (some 28) (.extract 1 (.v 26)))) <|
    .st (.act none (.pset none 7 0 2 (.v 27))) <|
    .st (.act none (.px (some 8) (.mv (.v 28)))) .done
@[simp] def W5_70 := @Pl.wpe _ _ K5_70.eq_1
def K5_71 : Pl := .st (.act none (.ex (some 25) (.call fn_spec_ProjectState [.v 20, .v 22, .v 24]))) K5_70
@[simp] def W5_71 := @Pl.wpe _ _ K5_71.eq_1
def K5_72 : Pl := .st (.act none (.ex (some 24) (.call fn_laws_toState [.v 23]))) K5_71
@[simp] def W5_72 := @Pl.wpe _ _ K5_72.eq_1
def K5_73 : Pl := .st (.act none (.ex (some 22) (.call fn_laws_toExprS [.v 21]))) K5_72
@[simp] def W5_73 := @Pl.wpe _ _ K5_73.eq_1
def K5_74 : C := .seq (.pl <| .st (.ext 19 10) <|
    .st (.act none (.pget (some 19) none 3 0 (some 2))) <|
    .st (.act none (.px (some 21) (.mv (.v 1)))) <|
    .st (.act none (.pget (some 23) none 4 0 (some 2))) <|
    .st (.act none (.pnew 7 (.c (.agg #[.slice none 0 0, .slice none 0 0])) [])) <|
    .st (.act none (.ex (some 20) (.call fn_laws_toSystem [.v 19]))) K5_73) K5_69
@[simp] def W5_74 := @C.wpe _ _ K5_74.eq_1
def K5_75 : C := .seq (.pl <| .st (.ext 19 0) <|
    .st (.act none (.px (some 5) (.mv (.c (.bool true))))) .done) (.ret)
@[simp] def W5_75 := @C.wpe _ _ K5_75.eq_1
def K5_76 : C := .cond 19 (.v 20) K5_75 (.skip)
@[simp] def W5_76 := @C.wpe _ _ K5_76.eq_1
def K5_77 : C := .seq (.seq (.pl <| .st (.ext 19 2) <|
    .st (.act none (.px (some 19) (.mv (.v 6)))) <|
    .st (.act none (.px (some 20) (.bin .lss (.v 19) (.c (.int .i64 0))))) .done) K5_76) K5_74
@[simp] def W5_77 := @C.wpe _ _ K5_77.eq_1
def K5_78 : Pl := .st (.act none (.px (some 6) (.mv (.v 21)))) .done
@[simp] def W5_78 := @Pl.wpe _ _ K5_78.eq_1
def K5_79 : C := .seq (.pl <| .st (.ext 19 3) <|
    .st (.act none (.pget (some 19) none 4 0 (some 2))) <|
    .st (.act none (.px (some 20) (.mv (.v 6)))) <|
    .st (.act none (.ex (some 21) (.call fn_laws_szState [.v 19, .v 20]))) K5_78) K5_77
@[simp] def W5_79 := @C.wpe _ _ K5_79.eq_1
def K5_80 : C := .seq (.pl <| .st (.ext 19 0) <|
    .st (.act none (.px (some 5) (.mv (.c (.bool true))))) .done) (.ret)
@[simp] def W5_80 := @C.wpe _ _ K5_80.eq_1
def K5_81 : C := .cond 19 (.v 20) K5_80 (.skip)
@[simp] def W5_81 := @C.wpe _ _ K5_81.eq_1
def K5_82 : C := .seq (.seq (.pl <| .st (.ext 19 2) <|
    .st (.act none (.px (some 19) (.mv (.v 6)))) <|
    .st (.act none (.px (some 20) (.bin .lss (.v 19) (.c (.int .i64 0))))) .done) K5_81) K5_79
@[simp] def W5_82 := @C.wpe _ _ K5_82.eq_1
def K5_83 : Pl := .st (.act none (.px (some 6) (.mv (.v 21)))) .done
@[simp] def W5_83 := @Pl.wpe _ _ K5_83.eq_1
def K5_84 : C := .seq (.pl <| .st (.ext 19 3) <|
    .st (.act none (.px (some 19) (.mv (.v 1)))) <|
    .st (.act none (.px (some 20) (.mv (.v 6)))) <|
    .st (.act none (.ex (some 21) (.call fn_laws_szExprS [.v 19, .v 20]))) K5_83) K5_82
@[simp] def W5_84 := @C.wpe _ _ K5_84.eq_1
def K5_85 : C := .seq (.pl <| .st (.ext 19 0) <|
    .st (.act none (.px (some 5) (.mv (.c (.bool true))))) .done) (.ret)
@[simp] def W5_85 := @C.wpe _ _ K5_85.eq_1
def K5_86 : C := .cond 19 (.v 20) K5_85 (.skip)
@[simp] def W5_86 := @C.wpe _ _ K5_86.eq_1
def K5_87 : C := .seq (.seq (.pl <| .st (.ext 19 2) <|
    .st (.act none (.px (some 19) (.mv (.v 6)))) <|
    .st (.act none (.px (some 20) (.bin .lss (.v 19) (.c (.int .i64 0))))) .done) K5_86) K5_84
@[simp] def W5_87 := @C.wpe _ _ K5_87.eq_1
def K5_88 : Pl := .st (.act none (.px (some 6) (.mv (.v 21)))) .done
@[simp] def W5_88 := @Pl.wpe _ _ K5_88.eq_1
def K5_89 : C := .seq (.pl <| .st (.ext 19 3) <|
    .st (.act none (.pget (some 19) none 3 0 (some 2))) <|
    .st (.act none (.px (some 20) (.mv (.v 6)))) <|
    .st (.act none (.ex (some 21) (.call fn_laws_szSystem [.v 19, .v 20]))) K5_88) K5_87
@[simp] def W5_89 := @C.wpe _ _ K5_89.eq_1
def K5_90 : C := .seq (.pl <| .st (.ext 19 0) <|
    .st (.act none (.px (some 6) (.mv (.c (.int .i64 1048576))))) .done) K5_89
@[simp] def W5_90 := @C.wpe _ _ K5_90.eq_1
def B_laws_FnExactProjectState : C := .seq (.pl <| .st (.ext 19 0) <|
    .st (.act none (.pnew 3 (.v 0) [])) <|
    .st (.act none (.pnew 4 (.v 2) [])) <|
    .st (.act none (.px (some 5) (.mv (.c (.bool false))))) .done) K5_90
@[simp] def WB_laws_FnExactProjectState := @C.wpe _ _ B_laws_FnExactProjectState.eq_1
def R_laws_FnExactProjectState : FIR := ⟨B_laws_FnExactProjectState, 19, [(5, none)]⟩
theorem IR_laws_FnExactProjectState : cfun Try.prog H_laws_FnExactProjectState Try.f5 = some R_laws_FnExactProjectState := by kernel_rfl
theorem EN_laws_FnExactProjectState {args : List Value} {h : Heap} {k : Value → Heap → Prop} (hargs : args.length = 3) (hw : B_laws_FnExactProjectState.wp Try.prog (retQ [(5, none)] k) (env0 args 19) h) : CallE Try.prog fn_laws_FnExactProjectState args h k := enter Try.func5 rfl IR_laws_FnExactProjectState hargs hw

def H_laws_heldState : Hint := ⟨[(0, false), (1, false), (2, true), (4, false)], []⟩
def K39_1 : C := .seq (.pl <| .st (.ext 4 1) <|
    .st (.act none (.px (some 4) (.mv (.v 1)))) <|
    .st (.act none (.px (some 3) (.mv (.v 4)))) .done) (.ret)
@[simp] def W39_1 := @C.wpe _ _ K39_1.eq_1
def K39_2 : C := .seq (.pl <| .st (.ext 4 0) <|
    .st (.act none (.px (some 3) (.mv (.c (.int .i64 (-1)))))) .done) (.ret)
@[simp] def W39_2 := @C.wpe _ _ K39_2.eq_1
def K39_3 : C := .cond 4 (.v 5) K39_2 (.skip)
@[simp] def W39_3 := @C.wpe _ _ K39_3.eq_1
def K39_4 : C := .seq (.seq (.pl <| .st (.ext 4 2) <|
    .st (.act none (.px (some 4) (.mv (.v 1)))) <|
    .st (.act none (.px (some 5) (.bin .lss (.v 4) (.c (.int .i64 0))))) .done) K39_3) K39_1
@[simp] def W39_4 := @C.wpe _ _ K39_4.eq_1
def K39_5 : Pl := .st (.act none (.px (some 1) (.mv (.v 7)))) .done
@[simp] def W39_5 := @Pl.wpe _ _ K39_5.eq_1
def K39_6 : C := .seq (.pl <| .st (.ext 4 4) <|
    .st (.act none (.als 4 none 2)) <|
    .st (.act none (.pget (some 5) (some 4) 2 1 none)) <|
    .st (.act none (.px (some 6) (.mv (.v 1)))) <|
    .st (.act none (.ex (some 7) (.call fn_laws_heldIntS [.v 5, .v 6]))) K39_5) K39_4
@[simp] def W39_6 := @C.wpe _ _ K39_6.eq_1
def K39_7 : C := .seq (.pl <| .st (.ext 4 0) <|
    .st (.act none (.px (some 3) (.mv (.c (.int .i64 (-1)))))) .done) (.ret)
@[simp] def W39_7 := @C.wpe _ _ K39_7.eq_1
def K39_8 : C := .cond 4 (.v 5) K39_7 (.skip)
@[simp] def W39_8 := @C.wpe _ _ K39_8.eq_1
def K39_9 : C := .seq (.seq (.pl <| .st (.ext 4 2) <|
    .st (.act none (.px (some 4) (.mv (.v 1)))) <|
    .st (.act none (.px (some 5) (.bin .lss (.v 4) (.c (.int .i64 0))))) .done) K39_8) K39_6
@[simp] def W39_9 := @C.wpe _ _ K39_9.eq_1
def K39_10 : Pl := .st (.act none (.px (some 1) (.mv (.v 7)))) .done
@[simp] def W39_10 := @Pl.wpe _ _ K39_10.eq_1
def K39_11 : C := .seq (.pl <| .st (.ext 4 4) <|
    .st (.act none (.als 4 none 2)) <|
    .st (.act none (.pget (some 5) (some 4) 2 0 none)) <|
    .st (.act none (.px (some 6) (.mv (.v 1)))) <|
    .st (.act none (.ex (some 7) (.call fn_laws_heldIntS [.v 5, .v 6]))) K39_10) K39_9
@[simp] def W39_11 := @C.wpe _ _ K39_11.eq_1
def B_laws_heldState : C := .seq (.pl <| .st (.ext 4 0) <|
    .st (.act none (.pnew 2 (.v 0) [])) <|
    .st (.act none (.px (some 3) (.mv (.c (.int .i64 0))))) .done) K39_11
@[simp] def WB_laws_heldState := @C.wpe _ _ B_laws_heldState.eq_1
def R_laws_heldState : FIR := ⟨B_laws_heldState, 4, [(3, none)]⟩
theorem IR_laws_heldState : cfun Try.prog H_laws_heldState Try.f39 = some R_laws_heldState := by kernel_rfl
theorem EN_laws_heldState {args : List Value} {h : Heap} {k : Value → Heap → Prop} (hargs : args.length = 2) (hw : B_laws_heldState.wp Try.prog (retQ [(3, none)] k) (env0 args 4) h) : CallE Try.prog fn_laws_heldState args h k := enter Try.func39 rfl IR_laws_heldState hargs hw

def H_laws_markState : Hint := ⟨[(0, false), (1, false), (2, true), (4, false)], []⟩
def K38_1 : C := .seq (.pl <| .st (.ext 4 1) <|
    .st (.act none (.px (some 4) (.mv (.v 1)))) <|
    .st (.act none (.px (some 3) (.mv (.v 4)))) .done) (.ret)
@[simp] def W38_1 := @C.wpe _ _ K38_1.eq_1
def K38_2 : Pl := .st (.act none (.px (some 1) (.mv (.v 7)))) .done
@[simp] def W38_2 := @Pl.wpe _ _ K38_2.eq_1
def K38_3 : C := .seq (.pl <| .st (.ext 4 4) <|
    .st (.act none (.als 4 none 2)) <|
    .st (.act none (.pget (some 5) (some 4) 2 1 none)) <|
    .st (.act none (.px (some 6) (.mv (.v 1)))) <|
    .st (.act none (.ex (some 7) (.call fn_laws_markIntS [.v 5, .v 6]))) K38_2) K38_1
@[simp] def W38_3 := @C.wpe _ _ K38_3.eq_1
def K38_4 : Pl := .st (.act none (.px (some 1) (.mv (.v 7)))) .done
@[simp] def W38_4 := @Pl.wpe _ _ K38_4.eq_1
def K38_5 : C := .seq (.pl <| .st (.ext 4 4) <|
    .st (.act none (.als 4 none 2)) <|
    .st (.act none (.pget (some 5) (some 4) 2 0 none)) <|
    .st (.act none (.px (some 6) (.mv (.v 1)))) <|
    .st (.act none (.ex (some 7) (.call fn_laws_markIntS [.v 5, .v 6]))) K38_4) K38_3
@[simp] def W38_5 := @C.wpe _ _ K38_5.eq_1
def B_laws_markState : C := .seq (.pl <| .st (.ext 4 0) <|
    .st (.act none (.pnew 2 (.v 0) [])) <|
    .st (.act none (.px (some 3) (.mv (.c (.int .i64 0))))) .done) K38_5
@[simp] def WB_laws_markState := @C.wpe _ _ B_laws_markState.eq_1
def R_laws_markState : FIR := ⟨B_laws_markState, 4, [(3, none)]⟩
theorem IR_laws_markState : cfun Try.prog H_laws_markState Try.f38 = some R_laws_markState := by kernel_rfl
theorem EN_laws_markState {args : List Value} {h : Heap} {k : Value → Heap → Prop} (hargs : args.length = 2) (hw : B_laws_markState.wp Try.prog (retQ [(3, none)] k) (env0 args 4) h) : CallE Try.prog fn_laws_markState args h k := enter Try.func38 rfl IR_laws_markState hargs hw

def H_slices_Clip_S_int_int : Hint := ⟨[(0, false), (2, false)], []⟩
def K165_1 : C := .seq (.pl <| .st (.ext 2 6) <|
    .st (.act none (.px (some 2) (.mv (.v 0)))) <|
    .st (.act none (.px (some 3) (.mv (.v 0)))) <|
    .st (.act none (.px (some 4) (.lenV (.v 3)))) <|
    .st (.act none (.px (some 5) (.mv (.v 0)))) <|
    .st (.act none (.px (some 6) (.lenV (.v 5)))) <|
    .st (.act none (.px (some 7) (.sliceV 1 (.v 2) none (some (.v 4)) (some (.v 6))))) <|
    .st (.act none (.px (some 1) (.mv (.v 7)))) .done) (.ret)
@[simp] def W165_1 := @C.wpe _ _ K165_1.eq_1
def B_slices_Clip_S_int_int : C := .seq (.pl <| .st (.ext 2 0) <|
    .st (.act none (.px (some 1) (.mv (.c (.slice none 0 0))))) .done) K165_1
@[simp] def WB_slices_Clip_S_int_int := @C.wpe _ _ B_slices_Clip_S_int_int.eq_1
def R_slices_Clip_S_int_int : FIR := ⟨B_slices_Clip_S_int_int, 2, [(1, none)]⟩
theorem IR_slices_Clip_S_int_int : cfun Try.prog H_slices_Clip_S_int_int Try.f165 = some R_slices_Clip_S_int_int := by kernel_rfl
theorem EN_slices_Clip_S_int_int {args : List Value} {h : Heap} {k : Value → Heap → Prop} (hargs : args.length = 1) (hw : B_slices_Clip_S_int_int.wp Try.prog (retQ [(1, none)] k) (env0 args 2) h) : CallE Try.prog fn_slices_Clip_S_int_int args h k := enter Try.func165 rfl IR_slices_Clip_S_int_int hargs hw

def H_slices_Clone_S_int_int : Hint := ⟨[(0, false), (2, false)], []⟩
def K166_1 : Pl := .st (.act none (.px (some 1) (.mv (.v 4)))) .done
@[simp] def W166_1 := @Pl.wpe _ _ K166_1.eq_1
def K166_2 : C := .seq (.pl <| .st (.ext 2 3) <|
    .st (.act none (.psl 2 [] [])) <|
    .st (.act none (.px (some 3) (.mv (.v 0)))) <|
    .st (.act none (.ex (some 4) (.app 8 1 [.int .i64 0] (.p 0 2) (.o (.v 3))))) K166_1) (.ret)
@[simp] def W166_2 := @C.wpe _ _ K166_2.eq_1
def K166_3 : C := .seq (.pl <| .st (.ext 2 0) <|
    .st (.act none (.px (some 1) (.mv (.c (.slice none 0 0))))) .done) (.ret)
@[simp] def W166_3 := @C.wpe _ _ K166_3.eq_1
def K166_4 : C := .cond 2 (.v 3) K166_3 (.skip)
@[simp] def W166_4 := @C.wpe _ _ K166_4.eq_1
def K166_5 : C := .seq (.seq (.pl <| .st (.ext 2 2) <|
    .st (.act none (.px (some 2) (.mv (.v 0)))) <|
    .st (.act none (.px (some 3) (.isNil false (.v 2)))) .done) K166_4) K166_2
@[simp] def W166_5 := @C.wpe _ _ K166_5.eq_1
def B_slices_Clone_S_int_int : C := .seq (.pl <| .st (.ext 2 0) <|
    .st (.act none (.px (some 1) (.mv (.c (.slice none 0 0))))) .done) K166_5
@[simp] def WB_slices_Clone_S_int_int := @C.wpe _ _ B_slices_Clone_S_int_int.eq_1
def R_slices_Clone_S_int_int : FIR := ⟨B_slices_Clone_S_int_int, 2, [(1, none)]⟩
theorem IR_slices_Clone_S_int_int : cfun Try.prog H_slices_Clone_S_int_int Try.f166 = some R_slices_Clone_S_int_int := by kernel_rfl
theorem EN_slices_Clone_S_int_int {args : List Value} {h : Heap} {k : Value → Heap → Prop} (hargs : args.length = 1) (hw : B_slices_Clone_S_int_int.wp Try.prog (retQ [(1, none)] k) (env0 args 2) h) : CallE Try.prog fn_slices_Clone_S_int_int args h k := enter Try.func166 rfl IR_slices_Clone_S_int_int hargs hw

def H_spec_ProjectState : Hint := ⟨[(0, false), (1, false), (2, false), (3, true), (5, true), (6, true), (7, false), (8, false), (9, false), (10, true), (11, false)], [[0, 1, 2, 4, 6, 8]]⟩
def K34_1 : C := .seq (.pl <| .st (.ext 11 1) <|
    .st (.act none (.pget (some 11) none 9 0 (some 2))) <|
    .st (.act none (.pset none 5 0 2 (.v 11))) <|
    .st (.act none (.px (some 6) (.mv (.c (.bool true))))) .done) (.ret)
@[simp] def W34_1 := @C.wpe _ _ K34_1.eq_1
def K34_2 : C := .pl <| .st (.ext 11 2) <|
    .st (.act none (.px (some 11) (.mv (.v 10)))) <|
    .st (.act none (.px (some 12) (.bin .add (.v 11) (.c (.int .i64 1))))) <|
    .st (.act none (.px (some 10) (.mv (.v 12)))) .done
@[simp] def W34_2 := @C.wpe _ _ K34_2.eq_1
def K34_3 : C := .pl <| .st (.ext 11 9) <|
    .st (.act none (.als 11 none 9)) <|
    .st (.act none (.pget (some 12) (some 11) 9 1 none)) <|
    .st (.act none (.px (some 13) (.mv (.v 10)))) <|
    .st (.act none (.als 14 none 3)) <|
    .st (.act none (.pget (some 15) (some 14) 3 0 none)) <|
    .st (.act none (.px (some 16) (.mv (.v 10)))) <|
    .st (.act none (.px (some 17) (.ia 1 (.v 15) (.v 16)))) <|
    .st (.act none (.ld (some 18) (.v 17) none)) <|
    .st (.act none (.px (some 19) (.ia 1 (.v 12) (.v 13)))) <|
    .st (.act none (.ex none (.store 1 (.v 19) (.v 18)))) .done
@[simp] def W34_3 := @C.wpe _ _ K34_3.eq_1
def K34_4 : C := .cond 11 (.v 15) K34_3 (.skip)
@[simp] def W34_4 := @C.wpe _ _ K34_4.eq_1
def K34_5 : C := .seq (.block 1 (.seq (.pl <| .st (.ext 11 5) <|
    .st (.act none (.px (some 11) (.mv (.v 7)))) <|
    .st (.act none (.px (some 12) (.mv (.v 10)))) <|
    .st (.act none (.px (some 13) (.ia 1 (.v 11) (.v 12)))) <|
    .st (.act none (.ld (some 14) (.v 13) none)) <|
    .st (.act none (.px (some 15) (.un .not (.v 14)))) .done) K34_4)) K34_2
@[simp] def W34_5 := @C.wpe _ _ K34_5.eq_1
def K34_6 : C := .cond 11 (.v 15) (.skip) (.exit 0)
@[simp] def W34_6 := @C.wpe _ _ K34_6.eq_1
def K34_7 : C := .seq (.seq (.pl <| .st (.ext 11 5) <|
    .st (.act none (.px (some 11) (.mv (.v 10)))) <|
    .st (.act none (.als 12 none 9)) <|
    .st (.act none (.pget (some 13) (some 12) 9 1 none)) <|
    .st (.act none (.px (some 14) (.lenV (.v 13)))) <|
    .st (.act none (.px (some 15) (.bin .lss (.v 11) (.v 14)))) .done) K34_6) K34_5
@[simp] def W34_7 := @C.wpe _ _ K34_7.eq_1
def K34_8 : C := .block 0 (.loop 11 [0, 1, 2, 4, 6, 8] K34_7)
@[simp] def W34_8 := @C.wpe _ _ K34_8.eq_1
def K34_9 : C := .seq (.seq (.pl <| .st (.ext 11 0) <|
    .st (.act none (.px (some 10) (.mv (.c (.int .i64 0))))) .done) K34_8) K34_1
@[simp] def W34_9 := @C.wpe _ _ K34_9.eq_1
def K34_10 : Pl := .st (.act none (.px (some 19) (.build [.slice none 0 0, .slice none 0 0] [(0, 1, .v 14), (1, 1, .v 18)]))) <|
    .st (.act none (.pset none 9 0 2 (.v 19))) .done
@[simp] def W34_10 := @Pl.wpe _ _ K34_10.eq_1
def K34_11 : Pl := .st (.act none (.ex (some 18) (.app 8 1 [.int .i64 0] (.p 0 15) (.o (.v 17))))) K34_10
@[simp] def W34_11 := @Pl.wpe _ _ K34_11.eq_1
def K34_12 : C := .seq (.pl <| .st (.ext 11 9) <|
    .st (.act none (.psl 11 [] [])) <|
    .st (.act none (.als 12 none 4)) <|
    .st (.act none (.pget (some 13) (some 12) 4 0 none)) <|
    .st (.act none (.psl 15 [] [])) <|
    .st (.act none (.als 16 none 4)) <|
    .st (.act none (.pget (some 17) (some 16) 4 1 none)) <|
    .st (.act none (.pnew 9 (.c (.agg #[.slice none 0 0, .slice none 0 0])) [])) <|
    .st (.act none (.ex (some 14) (.app 8 1 [.int .i64 0] (.p 0 11) (.o (.v 13))))) K34_11) K34_9
@[simp] def W34_12 := @C.wpe _ _ K34_12.eq_1
def K34_13 : C := .seq (.pl <| .st (.ext 11 1) <|
    .st (.act none (.px (some 11) (.build [.slice none 0 0, .slice none 0 0] []))) <|
    .st (.act none (.pset none 5 0 2 (.v 11))) <|
    .st (.act none (.px (some 6) (.mv (.c (.bool false))))) .done) (.ret)
@[simp] def W34_13 := @C.wpe _ _ K34_13.eq_1
def K34_14 : C := .cond 11 (.v 18) K34_13 (.skip)
@[simp] def W34_14 := @C.wpe _ _ K34_14.eq_1
def K34_15 : Pl := .st (.act (some (.v 13, false)) (.px (some 17) (.un .not (.v 16)))) <|
    .st (.act none (.px (some 18) (.pick (.v 13) (.c (.bool true)) (.v 17)))) .done
@[simp] def W34_15 := @Pl.wpe _ _ K34_15.eq_1
def K34_16 : C := .seq (.seq (.pl <| .st (.ext 11 8) <|
    .st (.act none (.px (some 11) (.mv (.v 8)))) <|
    .st (.act none (.px (some 12) (.un .not (.v 11)))) <|
    .st (.act none (.px (some 13) (.mv (.v 12)))) <|
    .st (.act (some (.v 13, false)) (.pget (some 14) none 3 0 (some 2))) <|
    .st (.act (some (.v 13, false)) (.pget (some 15) none 4 0 (some 2))) <|
    .st (.act (some (.v 13, false)) (.ex (some 16) (.call fn_spec_StateValid [.v 14, .v 15]))) K34_15) K34_14) K34_12
@[simp] def W34_16 := @C.wpe _ _ K34_16.eq_1
def K34_17 : Pl := .st (.act none (.px (some 14) (.mv (.v 13)))) <|
    .st (.act none (.px (some 15) (.extract 0 (.v 14)))) <|
    .st (.act none (.px (some 16) (.extract 1 (.v 14)))) <|
    .st (.act none (.px (some 7) (.mv (.v 15)))) <|
    .st (.act none (.px (some 8) (.mv (.v 16)))) .done
@[simp] def W34_17 := @Pl.wpe _ _ K34_17.eq_1
def K34_18 : C := .seq (.pl <| .st (.ext 11 6) <|
    .st (.act none (.pget (some 11) none 3 0 (some 2))) <|
    .st (.act none (.px (some 12) (.mv (.v 1)))) <|
    .st (.act none (.ex (some 13) (.call fn_spec_RelevantVars [.v 11, .v 12]))) K34_17) K34_16
@[simp] def W34_18 := @C.wpe _ _ K34_18.eq_1
def B_spec_ProjectState : C := .seq (.pl <| .st (.ext 11 0) <|
    .st (.act none (.pnew 3 (.v 0) [])) <|
    .st (.act none (.pnew 4 (.v 2) [])) <|
    .st (.act none (.pnew 5 (.c (.agg #[.slice none 0 0, .slice none 0 0])) [])) <|
    .st (.act none (.px (some 6) (.mv (.c (.bool false))))) .done) K34_18
@[simp] def WB_spec_ProjectState := @C.wpe _ _ B_spec_ProjectState.eq_1
def R_spec_ProjectState : FIR := ⟨B_spec_ProjectState, 11, [(5, some (some 2)), (6, none)]⟩
theorem IR_spec_ProjectState : cfun Try.prog H_spec_ProjectState Try.f34 = some R_spec_ProjectState := by kernel_rfl
theorem EN_spec_ProjectState {args : List Value} {h : Heap} {k : Value → Heap → Prop} (hargs : args.length = 3) (hw : B_spec_ProjectState.wp Try.prog (retQ [(5, some (some 2)), (6, none)] k) (env0 args 11) h) : CallE Try.prog fn_spec_ProjectState args h k := enter Try.func34 rfl IR_spec_ProjectState hargs hw

def H_spec_StateValid : Hint := ⟨[(0, false), (1, false), (2, true), (3, true), (4, false), (5, false)], [[0, 1, 4]]⟩
def K83_1 : C := .seq (.pl <| .st (.ext 6 0) <|
    .st (.act none (.px (some 4) (.mv (.c (.bool true))))) .done) (.ret)
@[simp] def W83_1 := @C.wpe _ _ K83_1.eq_1
def K83_2 : C := .pl <| .st (.ext 6 2) <|
    .st (.act none (.px (some 6) (.mv (.v 5)))) <|
    .st (.act none (.px (some 7) (.bin .add (.v 6) (.c (.int .i64 1))))) <|
    .st (.act none (.px (some 5) (.mv (.v 7)))) .done
@[simp] def W83_2 := @C.wpe _ _ K83_2.eq_1
def K83_3 : C := .seq (.pl <| .st (.ext 6 0) <|
    .st (.act none (.px (some 4) (.mv (.c (.bool false))))) .done) (.ret)
@[simp] def W83_3 := @C.wpe _ _ K83_3.eq_1
def K83_4 : C := .cond 6 (.v 25) K83_3 (.skip)
@[simp] def W83_4 := @C.wpe _ _ K83_4.eq_1
def K83_5 : C := .seq (.block 1 (.seq (.pl <| .st (.ext 6 20) <|
    .st (.act none (.als 6 none 3)) <|
    .st (.act none (.pget (some 7) (some 6) 3 0 none)) <|
    .st (.act none (.px (some 8) (.mv (.v 5)))) <|
    .st (.act none (.px (some 9) (.ia 1 (.v 7) (.v 8)))) <|
    .st (.act none (.ld (some 10) (.v 9) none)) <|
    .st (.act none (.px (some 11) (.bin .lss (.v 10) (.c (.int .i64 0))))) <|
    .st (.act none (.px (some 12) (.mv (.v 11)))) <|
    .st (.act (some (.v 12, false)) (.als 13 none 3)) <|
    .st (.act (some (.v 12, false)) (.pget (some 14) (some 13) 3 0 none)) <|
    .st (.act (some (.v 12, false)) (.px (some 15) (.mv (.v 5)))) <|
    .st (.act (some (.v 12, false)) (.px (some 16) (.ia 1 (.v 14) (.v 15)))) <|
    .st (.act (some (.v 12, false)) (.ld (some 17) (.v 16) none)) <|
    .st (.act (some (.v 12, false)) (.als 18 none 2)) <|
    .st (.act (some (.v 12, false)) (.pget (some 19) (some 18) 2 1 none)) <|
    .st (.act (some (.v 12, false)) (.px (some 20) (.mv (.v 5)))) <|
    .st (.act (some (.v 12, false)) (.px (some 21) (.ia 2 (.v 19) (.v 20)))) <|
    .st (.act (some (.v 12, false)) (.px (some 22) (.fa 0 (.v 21)))) <|
    .st (.act (some (.v 12, false)) (.ld (some 23) (.v 22) none)) <|
    .st (.act (some (.v 12, false)) (.px (some 24) (.bin .geq (.v 17) (.v 23)))) <|
    .st (.act none (.px (some 25) (.pick (.v 12) (.c (.bool true)) (.v 24)))) .done) K83_4)) K83_2
@[simp] def W83_5 := @C.wpe _ _ K83_5.eq_1
def K83_6 : C := .cond 6 (.v 10) (.skip) (.exit 0)
@[simp] def W83_6 := @C.wpe _ _ K83_6.eq_1
def K83_7 : C := .seq (.seq (.pl <| .st (.ext 6 5) <|
    .st (.act none (.px (some 6) (.mv (.v 5)))) <|
    .st (.act none (.als 7 none 3)) <|
    .st (.act none (.pget (some 8) (some 7) 3 0 none)) <|
    .st (.act none (.px (some 9) (.lenV (.v 8)))) <|
    .st (.act none (.px (some 10) (.bin .lss (.v 6) (.v 9)))) .done) K83_6) K83_5
@[simp] def W83_7 := @C.wpe _ _ K83_7.eq_1
def K83_8 : C := .block 0 (.loop 6 [0, 1, 4] K83_7)
@[simp] def W83_8 := @C.wpe _ _ K83_8.eq_1
def K83_9 : C := .seq (.seq (.pl <| .st (.ext 6 0) <|
    .st (.act none (.px (some 5) (.mv (.c (.int .i64 0))))) .done) K83_8) K83_1
@[simp] def W83_9 := @C.wpe _ _ K83_9.eq_1
def K83_10 : C := .seq (.pl <| .st (.ext 6 0) <|
    .st (.act none (.px (some 4) (.mv (.c (.bool false))))) .done) (.ret)
@[simp] def W83_10 := @C.wpe _ _ K83_10.eq_1
def K83_11 : C := .cond 6 (.v 23) K83_10 (.skip)
@[simp] def W83_11 := @C.wpe _ _ K83_11.eq_1
def K83_12 : Pl := .st (.act (some (.v 18, false)) (.px (some 22) (.un .not (.v 21)))) <|
    .st (.act none (.px (some 23) (.pick (.v 18) (.c (.bool true)) (.v 22)))) .done
@[simp] def W83_12 := @Pl.wpe _ _ K83_12.eq_1
def K83_13 : Pl := .st (.act none (.px (some 8) (.un .not (.v 7)))) <|
    .st (.act none (.px (some 9) (.mv (.v 8)))) <|
    .st (.act (some (.v 9, false)) (.als 10 none 3)) <|
    .st (.act (some (.v 9, false)) (.pget (some 11) (some 10) 3 0 none)) <|
    .st (.act (some (.v 9, false)) (.px (some 12) (.lenV (.v 11)))) <|
    .st (.act (some (.v 9, false)) (.als 13 none 2)) <|
    .st (.act (some (.v 9, false)) (.pget (some 14) (some 13) 2 1 none)) <|
    .st (.act (some (.v 9, false)) (.px (some 15) (.lenV (.v 14)))) <|
    .st (.act (some (.v 9, false)) (.px (some 16) (.bin .neq (.v 12) (.v 15)))) <|
    .st (.act none (.px (some 17) (.pick (.v 9) (.c (.bool true)) (.v 16)))) <|
    .st (.act none (.px (some 18) (.mv (.v 17)))) <|
    .st (.act (some (.v 18, false)) (.als 19 none 3)) <|
    .st (.act (some (.v 18, false)) (.pget (some 20) (some 19) 3 1 none)) <|
    .st (.act (some (.v 18, false)) (.ex (some 21) (.call fn_spec_l1Vals [.v 20]))) K83_12
@[simp] def W83_13 := @Pl.wpe _ _ K83_13.eq_1
def K83_14 : C := .seq (.seq (.pl <| .st (.ext 6 18) <|
    .st (.act none (.pget (some 6) none 2 0 (some 2))) <|
    .st (.act none (.ex (some 7) (.call fn_spec_SystemValid [.v 6]))) K83_13) K83_11) K83_9
@[simp] def W83_14 := @C.wpe _ _ K83_14.eq_1
def B_spec_StateValid : C := .seq (.pl <| .st (.ext 6 0) <|
    .st (.act none (.pnew 2 (.v 0) [])) <|
    .st (.act none (.pnew 3 (.v 1) [])) <|
    .st (.act none (.px (some 4) (.mv (.c (.bool false))))) .done) K83_14
@[simp] def WB_spec_StateValid := @C.wpe _ _ B_spec_StateValid.eq_1
def R_spec_StateValid : FIR := ⟨B_spec_StateValid, 6, [(4, none)]⟩
theorem IR_spec_StateValid : cfun Try.prog H_spec_StateValid Try.f83 = some R_spec_StateValid := by kernel_rfl
theorem EN_spec_StateValid {args : List Value} {h : Heap} {k : Value → Heap → Prop} (hargs : args.length = 2) (hw : B_spec_StateValid.wp Try.prog (retQ [(4, none)] k) (env0 args 6) h) : CallE Try.prog fn_spec_StateValid args h k := enter Try.func83 rfl IR_spec_StateValid hargs hw


end Go.Proofs.Ythgimpheeemooaa
