/-
  Texts of this proof, one behind the other.
-/
import Derived.Test.YthgimpheeemooaaGreatM3
/-
  Bodies of functions in the small language, as a program printed them, and that each is what the translation gives.
-/
namespace Go.Proofs.YthgimpheeemooaaGreat
open Go
set_option linter.all false
set_option linter.defProp false
set_option maxRecDepth 1000000

def H_impl_Graph_path : Hint := ⟨[(0, false), (1, false), (2, false), (3, true), (5, false), (6, false)], []⟩
def K100_1 : Pl := .st (.act none (.px (some 5) (.mv (.v 11)))) .done
@[simp] def W100_1 := @Pl.wpe _ _ K100_1.eq_1
def K100_2 : Pl := .st (.act none (.px (some 10) (.mkf (.func fn_impl_Graph_path_1) [] [.v 4]))) <|
    .st (.act none (.ex (some 11) (.call fn_impl_shortest [.v 7, .v 9, .v 10]))) K100_1
@[simp] def W100_2 := @Pl.wpe _ _ K100_2.eq_1
def K100_3 : C := .seq (.pl <| .st (.ext 6 6) <|
    .st (.act none (.als 6 none 3)) <|
    .st (.act none (.pget (some 7) (some 6) 3 1 none)) <|
    .st (.act none (.px (some 8) (.mv (.v 1)))) <|
    .st (.act none (.ex (some 9) (.bls 1 1 [.int .i64 0] [(0, 1, .v 8)]))) K100_2) (.ret)
@[simp] def W100_3 := @C.wpe _ _ K100_3.eq_1
def K100_4 : Pl := .st (.act none (.px (some 5) (.mv (.c (.slice none 0 0))))) .done
@[simp] def W100_4 := @Pl.wpe _ _ K100_4.eq_1
def B_impl_Graph_path : C := .seq (.pl <| .st (.ext 6 0) <|
    .st (.act none (.pnew 3 (.v 0) [])) <|
    .st (.act none (.ex (some 4) (.alloc (.v 2)))) K100_4) K100_3
@[simp] def WB_impl_Graph_path := @C.wpe _ _ B_impl_Graph_path.eq_1
def R_impl_Graph_path : FIR := ⟨B_impl_Graph_path, 6, [(5, none)]⟩
theorem IR_impl_Graph_path : cfun Tryz.prog H_impl_Graph_path Tryz.f100 = some R_impl_Graph_path := by kernel_rfl
theorem EN_impl_Graph_path {args : List Value} {h : Heap} {k : Value → Heap → Prop} (hargs : args.length = 3) (hw : B_impl_Graph_path.wp Tryz.prog (retQ [(5, none)] k) (env0 args 6) h) : CallE Tryz.prog fn_impl_Graph_path args h k := enter Tryz.func100 rfl IR_impl_Graph_path hargs hw

def H_impl_Graph_path_1 : Hint := ⟨[(0, false), (1, false), (3, false)], []⟩
def K120_1 : C := .seq (.pl <| .st (.ext 3 3) <|
    .st (.act none (.px (some 3) (.mv (.v 0)))) <|
    .st (.act none (.ld (some 4) (.v 1) none)) <|
    .st (.act none (.px (some 5) (.bin .eql (.v 3) (.v 4)))) <|
    .st (.act none (.px (some 2) (.mv (.v 5)))) .done) (.ret)
@[simp] def W120_1 := @C.wpe _ _ K120_1.eq_1
def B_impl_Graph_path_1 : C := .seq (.pl <| .st (.ext 3 0) <|
    .st (.act none (.px (some 2) (.mv (.c (.bool false))))) .done) K120_1
@[simp] def WB_impl_Graph_path_1 := @C.wpe _ _ B_impl_Graph_path_1.eq_1
def R_impl_Graph_path_1 : FIR := ⟨B_impl_Graph_path_1, 3, [(2, none)]⟩
theorem IR_impl_Graph_path_1 : cfun Tryz.prog H_impl_Graph_path_1 Tryz.f120 = some R_impl_Graph_path_1 := by kernel_rfl
theorem EN_impl_Graph_path_1 {args : List Value} {h : Heap} {k : Value → Heap → Prop} (hargs : args.length = 2) (hw : B_impl_Graph_path_1.wp Tryz.prog (retQ [(2, none)] k) (env0 args 3) h) : CallE Tryz.prog fn_impl_Graph_path_1 args h k := enter Tryz.func120 rfl IR_impl_Graph_path_1 hargs hw

def H_impl_Graph_statesOf : Hint := ⟨[(0, false), (1, false), (2, true), (4, false), (5, false), (6, false), (7, false), (11, false), (12, false), (13, false)], [[0, 1, 3, 5, 6]]⟩
def K99_1 : C := .seq (.pl <| .st (.ext 10 1) <|
    .st (.act none (.px (some 10) (.mv (.v 4)))) <|
    .st (.act none (.px (some 3) (.mv (.v 10)))) .done) (.ret)
@[simp] def W99_1 := @C.wpe _ _ K99_1.eq_1
def K99_2 : C := .pl <| .st (.ext 10 1) <|
    .st (.act none (.px (some 10) (.bin .add (.v 9) (.c (.int .i64 1))))) <|
    .st (.act none (.px (some 9) (.mv (.v 10)))) .done
@[simp] def W99_2 := @C.wpe _ _ K99_2.eq_1
def K99_3 : Pl := .st (.act none (.px (some 18) (.ia 2 (.v 10) (.v 11)))) <|
    .st (.act none (.ex none (.store 2 (.v 18) (.v 17)))) .done
@[simp] def W99_3 := @Pl.wpe _ _ K99_3.eq_1
def K99_4 : C := .pl <| .st (.ext 10 9) <|
    .st (.act none (.px (some 10) (.mv (.v 4)))) <|
    .st (.act none (.px (some 11) (.mv (.v 5)))) <|
    .st (.act none (.als 12 none 2)) <|
    .st (.act none (.pget (some 13) (some 12) 2 0 none)) <|
    .st (.act none (.px (some 14) (.mv (.v 6)))) <|
    .st (.act none (.px (some 15) (.ia 2 (.v 13) (.v 14)))) <|
    .st (.act none (.ld (some 16) (.v 15) (some 2))) <|
    .st (.act none (.ex (some 17) (.call fn_impl_State_copyOf [.v 16]))) K99_3
@[simp] def W99_4 := @C.wpe _ _ K99_4.eq_1
def K99_5 : C := .seq (.block 1 (.seq (.pl <| .st (.ext 10 3) <|
    .st (.act none (.px (some 10) (.mv (.v 9)))) <|
    .st (.act none (.px (some 11) (.ia 1 (.v 7) (.v 9)))) <|
    .st (.act none (.ld (some 12) (.v 11) none)) <|
    .st (.act none (.px (some 5) (.mv (.v 10)))) <|
    .st (.act none (.px (some 6) (.mv (.v 12)))) .done) K99_4)) K99_2
@[simp] def W99_5 := @C.wpe _ _ K99_5.eq_1
def K99_6 : C := .seq (.cond 10 (.v 10) (.skip) (.exit 0)) K99_5
@[simp] def W99_6 := @C.wpe _ _ K99_6.eq_1
def K99_7 : C := .seq (.pl <| .st (.ext 10 1) <|
    .st (.act none (.px (some 10) (.bin .lss (.v 9) (.v 8)))) .done) K99_6
@[simp] def W99_7 := @C.wpe _ _ K99_7.eq_1
def K99_8 : C := .block 0 (.loop 10 [0, 1, 3, 5, 6] K99_7)
@[simp] def W99_8 := @C.wpe _ _ K99_8.eq_1
def K99_9 : C := .seq (.seq (.pl <| .st (.ext 10 0) <|
    .st (.act none (.px (some 7) (.mv (.v 1)))) <|
    .st (.act none (.px (some 8) (.lenV (.v 7)))) <|
    .st (.act none (.px (some 9) (.mv (.c (.int .i64 0))))) .done) K99_8) K99_1
@[simp] def W99_9 := @C.wpe _ _ K99_9.eq_1
def K99_10 : Pl := .st (.act none (.px (some 4) (.mv (.v 12)))) .done
@[simp] def W99_10 := @Pl.wpe _ _ K99_10.eq_1
def K99_11 : C := .seq (.pl <| .st (.ext 10 3) <|
    .st (.act none (.px (some 10) (.mv (.v 1)))) <|
    .st (.act none (.px (some 11) (.lenV (.v 10)))) <|
    .st (.act none (.ex (some 12) (.mks 48 2 [.slice none 0 0, .slice none 0 0] (.v 11) (.v 11)))) K99_10) K99_9
@[simp] def W99_11 := @C.wpe _ _ K99_11.eq_1
def B_impl_Graph_statesOf : C := .seq (.pl <| .st (.ext 10 0) <|
    .st (.act none (.pnew 2 (.v 0) [])) <|
    .st (.act none (.px (some 3) (.mv (.c (.slice none 0 0))))) .done) K99_11
@[simp] def WB_impl_Graph_statesOf := @C.wpe _ _ B_impl_Graph_statesOf.eq_1
def R_impl_Graph_statesOf : FIR := ⟨B_impl_Graph_statesOf, 10, [(3, none)]⟩
theorem IR_impl_Graph_statesOf : cfun Tryz.prog H_impl_Graph_statesOf Tryz.f99 = some R_impl_Graph_statesOf := by kernel_rfl
theorem EN_impl_Graph_statesOf {args : List Value} {h : Heap} {k : Value → Heap → Prop} (hargs : args.length = 2) (hw : B_impl_Graph_statesOf.wp Tryz.prog (retQ [(3, none)] k) (env0 args 10) h) : CallE Tryz.prog fn_impl_Graph_statesOf args h k := enter Tryz.func99 rfl IR_impl_Graph_statesOf hargs hw

def H_impl_check : Hint := ⟨[(0, false), (1, false), (2, false), (3, true), (6, false), (7, false), (8, true), (9, false), (10, false)], []⟩
def K58_1 : C := .seq (.pl <| .st (.ext 9 0) <|
    .st (.act none (.px (some 4) (.mv (.c (.int .i64 0))))) <|
    .st (.act none (.px (some 5) (.mv (.c (.slice none 0 0))))) .done) (.ret)
@[simp] def W58_1 := @C.wpe _ _ K58_1.eq_1
def K58_2 : Pl := .st (.act none (.px (some 4) (.mv (.c (.int .i64 1))))) <|
    .st (.act none (.px (some 5) (.mv (.v 13)))) .done
@[simp] def W58_2 := @Pl.wpe _ _ K58_2.eq_1
def K58_3 : Pl := .st (.act none (.ex (some 13) (.call fn_impl_Graph_statesOf [.v 9, .v 12]))) K58_2
@[simp] def W58_3 := @Pl.wpe _ _ K58_3.eq_1
def K58_4 : C := .seq (.pl <| .st (.ext 9 5) <|
    .st (.act none (.pget (some 9) none 6 0 (some 2))) <|
    .st (.act none (.pget (some 10) none 6 0 (some 2))) <|
    .st (.act none (.px (some 11) (.mv (.v 8)))) <|
    .st (.act none (.ex (some 12) (.call fn_impl_Graph_path [.v 10, .c (.int .i64 0), .v 11]))) K58_3) (.ret)
@[simp] def W58_4 := @C.wpe _ _ K58_4.eq_1
def K58_5 : C := .cond 9 (.v 10) K58_4 (.skip)
@[simp] def W58_5 := @C.wpe _ _ K58_5.eq_1
def K58_6 : C := .seq (.pl <| .st (.ext 9 2) <|
    .st (.act none (.px (some 9) (.mv (.v 8)))) <|
    .st (.act none (.px (some 10) (.bin .geq (.v 9) (.c (.int .i64 0))))) .done) K58_5
@[simp] def W58_6 := @C.wpe _ _ K58_6.eq_1
def K58_7 : Pl := .st (.act none (.px (some 8) (.mv (.v 12)))) .done
@[simp] def W58_7 := @Pl.wpe _ _ K58_7.eq_1
def K58_8 : C := .seq (.seq (.pl <| .st (.ext 9 4) <|
    .st (.act none (.als 9 none 6)) <|
    .st (.act none (.pget (some 10) (some 9) 6 0 none)) <|
    .st (.act none (.px (some 11) (.mv (.v 2)))) <|
    .st (.act none (.ex (some 12) (.call fn_slices_IndexFunc_S_impl_State_impl_State [.v 10, .v 11]))) K58_7) K58_6) K58_1
@[simp] def W58_8 := @C.wpe _ _ K58_8.eq_1
def K58_9 : C := .seq (.pl <| .st (.ext 9 0) <|
    .st (.act none (.px (some 4) (.mv (.c (.int .i64 2))))) <|
    .st (.act none (.px (some 5) (.mv (.c (.slice none 0 0))))) .done) (.ret)
@[simp] def W58_9 := @C.wpe _ _ K58_9.eq_1
def K58_10 : C := .cond 9 (.v 10) K58_9 (.skip)
@[simp] def W58_10 := @C.wpe _ _ K58_10.eq_1
def K58_11 : C := .seq (.seq (.pl <| .st (.ext 9 2) <|
    .st (.act none (.px (some 9) (.mv (.v 7)))) <|
    .st (.act none (.px (some 10) (.un .not (.v 9)))) .done) K58_10) K58_8
@[simp] def W58_11 := @C.wpe _ _ K58_11.eq_1
def K58_12 : Pl := .st (.act none (.px (some 11) (.mv (.v 10)))) <|
    .st (.act none (.px (some 12) (.extract 0 (.v 11)))) <|
    .st (.act none (.px (some 13) (.extract 1 (.v 11)))) <|
    .st (.act none (.pnew 6 (.c (.agg #[.slice none 0 0, .slice none 0 0])) [])) <|
    .st (.act none (.pset none 6 0 2 (.v 12))) <|
    .st (.act none (.px (some 7) (.mv (.v 13)))) .done
@[simp] def W58_12 := @Pl.wpe _ _ K58_12.eq_1
def K58_13 : C := .seq (.pl <| .st (.ext 9 5) <|
    .st (.act none (.pget (some 9) none 3 0 (some 2))) <|
    .st (.act none (.ex (some 10) (.call fn_impl_System_build [.v 9]))) K58_12) K58_11
@[simp] def W58_13 := @C.wpe _ _ K58_13.eq_1
def K58_14 : C := .seq (.pl <| .st (.ext 9 0) <|
    .st (.act none (.px (some 4) (.mv (.c (.int .i64 3))))) <|
    .st (.act none (.px (some 5) (.mv (.c (.slice none 0 0))))) .done) (.ret)
@[simp] def W58_14 := @C.wpe _ _ K58_14.eq_1
def K58_15 : C := .cond 9 (.v 15) K58_14 (.skip)
@[simp] def W58_15 := @C.wpe _ _ K58_15.eq_1
def K58_16 : Pl := .st (.act (some (.v 11, false)) (.px (some 14) (.un .not (.v 13)))) <|
    .st (.act none (.px (some 15) (.pick (.v 11) (.c (.bool true)) (.v 14)))) .done
@[simp] def W58_16 := @Pl.wpe _ _ K58_16.eq_1
def K58_17 : C := .seq (.seq (.pl <| .st (.ext 9 7) <|
    .st (.act none (.px (some 9) (.mv (.v 1)))) <|
    .st (.act none (.px (some 10) (.un .not (.v 9)))) <|
    .st (.act none (.px (some 11) (.mv (.v 10)))) <|
    .st (.act (some (.v 11, false)) (.pget (some 12) none 3 0 (some 2))) <|
    .st (.act (some (.v 11, false)) (.ex (some 13) (.call fn_impl_SystemValid [.v 12]))) K58_16) K58_15) K58_13
@[simp] def W58_17 := @C.wpe _ _ K58_17.eq_1
def B_impl_check : C := .seq (.pl <| .st (.ext 9 0) <|
    .st (.act none (.pnew 3 (.v 0) [])) <|
    .st (.act none (.px (some 4) (.mv (.c (.int .i64 0))))) <|
    .st (.act none (.px (some 5) (.mv (.c (.slice none 0 0))))) .done) K58_17
@[simp] def WB_impl_check := @C.wpe _ _ B_impl_check.eq_1
def R_impl_check : FIR := ⟨B_impl_check, 9, [(4, none), (5, none)]⟩
theorem IR_impl_check : cfun Tryz.prog H_impl_check Tryz.f58 = some R_impl_check := by kernel_rfl
theorem EN_impl_check {args : List Value} {h : Heap} {k : Value → Heap → Prop} (hargs : args.length = 3) (hw : B_impl_check.wp Tryz.prog (retQ [(4, none), (5, none)] k) (env0 args 9) h) : CallE Tryz.prog fn_impl_check args h k := enter Tryz.func58 rfl IR_impl_check hargs hw

def H_impl_shortest : Hint := ⟨[(0, false), (1, false), (2, false), (6, false), (7, false), (8, false), (9, false), (11, false), (12, false), (13, false), (14, false), (16, false), (21, false), (22, false), (29, false), (30, false), (31, false), (76, false), (77, false), (78, false)], [[3, 5, 6, 7, 8, 9, 10, 11, 14, 15, 16, 17, 18, 19], [1, 3, 5, 7, 8, 9, 10, 11, 12, 13, 17, 18, 19], [1, 3, 5, 7, 9, 10, 11, 12, 13, 14, 15, 16, 17, 18, 19], [0, 1, 2, 3, 5, 6, 7, 8, 11, 12, 13, 14, 15, 16, 17, 18, 19], [1, 3, 5, 7, 9, 10, 11, 12, 13, 14, 15, 16]]⟩
def K119_1 : C := .seq (.pl <| .st (.ext 20 0) <|
    .st (.act none (.px (some 3) (.mv (.c (.slice none 0 0))))) .done) (.ret)
@[simp] def W119_1 := @C.wpe _ _ K119_1.eq_1
def K119_2 : C := .pl <| .st (.ext 20 2) <|
    .st (.act none (.px (some 20) (.mv (.v 8)))) <|
    .st (.act none (.px (some 21) (.bin .add (.v 20) (.c (.int .i64 1))))) <|
    .st (.act none (.px (some 8) (.mv (.v 21)))) .done
@[simp] def W119_2 := @C.wpe _ _ K119_2.eq_1
def K119_3 : C := .pl <| .st (.ext 20 1) <|
    .st (.act none (.px (some 20) (.bin .add (.v 19) (.c (.int .i64 1))))) <|
    .st (.act none (.px (some 19) (.mv (.v 20)))) .done
@[simp] def W119_3 := @C.wpe _ _ K119_3.eq_1
def K119_4 : Pl := .st (.act none (.px (some 6) (.mv (.v 23)))) .done
@[simp] def W119_4 := @Pl.wpe _ _ K119_4.eq_1
def K119_5 : C := .pl <| .st (.ext 20 4) <|
    .st (.act none (.px (some 20) (.mv (.v 6)))) <|
    .st (.act none (.px (some 21) (.mv (.v 11)))) <|
    .st (.act none (.psl 22 [.int .i64 0] [(0, 1, .v 21)])) <|
    .st (.act none (.ex (some 23) (.app 8 1 [.int .i64 0] (.o (.v 20)) (.p 1 22)))) K119_4
@[simp] def W119_5 := @C.wpe _ _ K119_5.eq_1
def K119_6 : C := .seq (.pl <| .st (.ext 20 7) <|
    .st (.act none (.px (some 20) (.mv (.v 4)))) <|
    .st (.act none (.px (some 21) (.mv (.v 11)))) <|
    .st (.act none (.px (some 22) (.mv (.v 6)))) <|
    .st (.act none (.px (some 23) (.mv (.v 8)))) <|
    .st (.act none (.px (some 24) (.ia 1 (.v 22) (.v 23)))) <|
    .st (.act none (.ld (some 25) (.v 24) none)) <|
    .st (.act none (.px (some 26) (.ia 1 (.v 20) (.v 21)))) <|
    .st (.act none (.ex none (.store 1 (.v 26) (.v 25)))) .done) K119_5
@[simp] def W119_6 := @C.wpe _ _ K119_6.eq_1
def K119_7 : C := .cond 20 (.v 24) K119_6 (.skip)
@[simp] def W119_7 := @C.wpe _ _ K119_7.eq_1
def K119_8 : C := .seq (.pl <| .st (.ext 20 5) <|
    .st (.act none (.px (some 20) (.mv (.v 4)))) <|
    .st (.act none (.px (some 21) (.mv (.v 11)))) <|
    .st (.act none (.px (some 22) (.ia 1 (.v 20) (.v 21)))) <|
    .st (.act none (.ld (some 23) (.v 22) none)) <|
    .st (.act none (.px (some 24) (.bin .eql (.v 23) (.c (.int .i64 (-2)))))) .done) K119_7
@[simp] def W119_8 := @C.wpe _ _ K119_8.eq_1
def K119_9 : C := .seq (.block 9 (.seq (.pl <| .st (.ext 20 2) <|
    .st (.act none (.px (some 20) (.ia 1 (.v 17) (.v 19)))) <|
    .st (.act none (.ld (some 21) (.v 20) none)) <|
    .st (.act none (.px (some 11) (.mv (.v 21)))) .done) K119_8)) K119_3
@[simp] def W119_9 := @C.wpe _ _ K119_9.eq_1
def K119_10 : C := .seq (.cond 20 (.v 20) (.skip) (.exit 8)) K119_9
@[simp] def W119_10 := @C.wpe _ _ K119_10.eq_1
def K119_11 : C := .seq (.pl <| .st (.ext 20 1) <|
    .st (.act none (.px (some 20) (.bin .lss (.v 19) (.v 18)))) .done) K119_10
@[simp] def W119_11 := @C.wpe _ _ K119_11.eq_1
def K119_12 : C := .block 8 (.loop 20 [1, 3, 5, 7, 9, 10, 11, 12, 13, 14, 15, 16] K119_11)
@[simp] def W119_12 := @C.wpe _ _ K119_12.eq_1
def K119_13 : C := .seq (.pl <| .st (.ext 20 6) <|
    .st (.act none (.px (some 20) (.mv (.v 0)))) <|
    .st (.act none (.px (some 21) (.mv (.v 6)))) <|
    .st (.act none (.px (some 22) (.mv (.v 8)))) <|
    .st (.act none (.px (some 23) (.ia 1 (.v 21) (.v 22)))) <|
    .st (.act none (.ld (some 24) (.v 23) none)) <|
    .st (.act none (.px (some 25) (.ia 1 (.v 20) (.v 24)))) <|
    .st (.act none (.ld (some 17) (.v 25) none)) <|
    .st (.act none (.px (some 18) (.lenV (.v 17)))) <|
    .st (.act none (.px (some 19) (.mv (.c (.int .i64 0))))) .done) K119_12
@[simp] def W119_13 := @C.wpe _ _ K119_13.eq_1
def K119_14 : Pl := .st (.act none (.px (some 3) (.mv (.v 21)))) .done
@[simp] def W119_14 := @Pl.wpe _ _ K119_14.eq_1
def K119_15 : C := .seq (.pl <| .st (.ext 20 2) <|
    .st (.act none (.px (some 20) (.mv (.v 10)))) <|
    .st (.act none (.ex (some 21) (.call fn_slices_Clip_S_int_int [.v 20]))) K119_14) (.ret)
@[simp] def W119_15 := @C.wpe _ _ K119_15.eq_1
def K119_16 : C := .seq (.pl <| .st (.ext 20 2) <|
    .st (.act none (.px (some 20) (.mv (.v 10)))) <|
    .st (.act none (.ex (some 21) (.call fn_slices_Reverse_S_int_int [.v 20]))) .done) K119_15
@[simp] def W119_16 := @C.wpe _ _ K119_16.eq_1
def K119_17 : C := .pl <| .st (.ext 20 4) <|
    .st (.act none (.px (some 20) (.mv (.v 4)))) <|
    .st (.act none (.px (some 21) (.mv (.v 9)))) <|
    .st (.act none (.px (some 22) (.ia 1 (.v 20) (.v 21)))) <|
    .st (.act none (.ld (some 23) (.v 22) none)) <|
    .st (.act none (.px (some 9) (.mv (.v 23)))) .done
@[simp] def W119_17 := @C.wpe _ _ K119_17.eq_1
def K119_18 : Pl := .st (.act none (.px (some 10) (.mv (.v 23)))) .done
@[simp] def W119_18 := @Pl.wpe _ _ K119_18.eq_1
def K119_19 : C := .seq (.block 7 (.pl <| .st (.ext 20 4) <|
    .st (.act none (.px (some 20) (.mv (.v 10)))) <|
    .st (.act none (.px (some 21) (.mv (.v 9)))) <|
    .st (.act none (.psl 22 [.int .i64 0] [(0, 1, .v 21)])) <|
    .st (.act none (.ex (some 23) (.app 8 1 [.int .i64 0] (.o (.v 20)) (.p 1 22)))) K119_18)) K119_17
@[simp] def W119_19 := @C.wpe _ _ K119_19.eq_1
def K119_20 : C := .cond 20 (.v 21) (.skip) (.exit 6)
@[simp] def W119_20 := @C.wpe _ _ K119_20.eq_1
def K119_21 : C := .seq (.seq (.pl <| .st (.ext 20 2) <|
    .st (.act none (.px (some 20) (.mv (.v 9)))) <|
    .st (.act none (.px (some 21) (.bin .geq (.v 20) (.c (.int .i64 0))))) .done) K119_20) K119_19
@[simp] def W119_21 := @C.wpe _ _ K119_21.eq_1
def K119_22 : C := .seq (.block 6 (.loop 20 [0, 1, 2, 3, 5, 6, 7, 8, 11, 12, 13, 14, 15, 16, 17, 18, 19] K119_21)) K119_16
@[simp] def W119_22 := @C.wpe _ _ K119_22.eq_1
def K119_23 : C := .seq (.pl <| .st (.ext 20 0) <|
    .st (.act none (.px (some 10) (.mv (.c (.slice none 0 0))))) .done) K119_22
@[simp] def W119_23 := @C.wpe _ _ K119_23.eq_1
def K119_24 : C := .cond 20 (.v 22) K119_23 (.skip)
@[simp] def W119_24 := @C.wpe _ _ K119_24.eq_1
def K119_25 : C := .seq (.pl <| .st (.ext 20 3) <|
    .st (.act none (.px (some 20) (.mv (.v 2)))) <|
    .st (.act none (.px (some 21) (.mv (.v 9)))) <|
    .st (.act none (.ex (some 22) (.callv (.v 20) [.v 21]))) .done) K119_24
@[simp] def W119_25 := @C.wpe _ _ K119_25.eq_1
def K119_26 : C := .seq (.block 5 (.seq (.seq (.pl <| .st (.ext 20 4) <|
    .st (.act none (.px (some 20) (.mv (.v 6)))) <|
    .st (.act none (.px (some 21) (.mv (.v 8)))) <|
    .st (.act none (.px (some 22) (.ia 1 (.v 20) (.v 21)))) <|
    .st (.act none (.ld (some 23) (.v 22) none)) <|
    .st (.act none (.px (some 9) (.mv (.v 23)))) .done) K119_25) K119_13)) K119_2
@[simp] def W119_26 := @C.wpe _ _ K119_26.eq_1
def K119_27 : C := .cond 20 (.v 23) (.skip) (.exit 4)
@[simp] def W119_27 := @C.wpe _ _ K119_27.eq_1
def K119_28 : C := .seq (.seq (.pl <| .st (.ext 20 4) <|
    .st (.act none (.px (some 20) (.mv (.v 8)))) <|
    .st (.act none (.px (some 21) (.mv (.v 6)))) <|
    .st (.act none (.px (some 22) (.lenV (.v 21)))) <|
    .st (.act none (.px (some 23) (.bin .lss (.v 20) (.v 22)))) .done) K119_27) K119_26
@[simp] def W119_28 := @C.wpe _ _ K119_28.eq_1
def K119_29 : C := .block 4 (.loop 20 [1, 3, 5, 7, 9, 10, 11, 12, 13, 14, 15, 16, 17, 18, 19] K119_28)
@[simp] def W119_29 := @C.wpe _ _ K119_29.eq_1
def K119_30 : C := .seq (.seq (.pl <| .st (.ext 20 0) <|
    .st (.act none (.px (some 8) (.mv (.c (.int .i64 0))))) .done) K119_29) K119_1
@[simp] def W119_30 := @C.wpe _ _ K119_30.eq_1
def K119_31 : C := .pl <| .st (.ext 20 1) <|
    .st (.act none (.px (some 20) (.bin .add (.v 16) (.c (.int .i64 1))))) <|
    .st (.act none (.px (some 16) (.mv (.v 20)))) .done
@[simp] def W119_31 := @C.wpe _ _ K119_31.eq_1
def K119_32 : Pl := .st (.act none (.px (some 6) (.mv (.v 23)))) .done
@[simp] def W119_32 := @Pl.wpe _ _ K119_32.eq_1
def K119_33 : C := .pl <| .st (.ext 20 4) <|
    .st (.act none (.px (some 20) (.mv (.v 6)))) <|
    .st (.act none (.px (some 21) (.mv (.v 7)))) <|
    .st (.act none (.psl 22 [.int .i64 0] [(0, 1, .v 21)])) <|
    .st (.act none (.ex (some 23) (.app 8 1 [.int .i64 0] (.o (.v 20)) (.p 1 22)))) K119_32
@[simp] def W119_33 := @C.wpe _ _ K119_33.eq_1
def K119_34 : C := .seq (.pl <| .st (.ext 20 3) <|
    .st (.act none (.px (some 20) (.mv (.v 4)))) <|
    .st (.act none (.px (some 21) (.mv (.v 7)))) <|
    .st (.act none (.px (some 22) (.ia 1 (.v 20) (.v 21)))) <|
    .st (.act none (.ex none (.store 1 (.v 22) (.c (.int .i64 (-1)))))) .done) K119_33
@[simp] def W119_34 := @C.wpe _ _ K119_34.eq_1
def K119_35 : C := .seq (.block 3 (.seq (.pl <| .st (.ext 20 2) <|
    .st (.act none (.px (some 20) (.ia 1 (.v 14) (.v 16)))) <|
    .st (.act none (.ld (some 21) (.v 20) none)) <|
    .st (.act none (.px (some 7) (.mv (.v 21)))) .done) K119_34)) K119_31
@[simp] def W119_35 := @C.wpe _ _ K119_35.eq_1
def K119_36 : C := .seq (.cond 20 (.v 20) (.skip) (.exit 2)) K119_35
@[simp] def W119_36 := @C.wpe _ _ K119_36.eq_1
def K119_37 : C := .seq (.pl <| .st (.ext 20 1) <|
    .st (.act none (.px (some 20) (.bin .lss (.v 16) (.v 15)))) .done) K119_36
@[simp] def W119_37 := @C.wpe _ _ K119_37.eq_1
def K119_38 : C := .block 2 (.loop 20 [1, 3, 5, 7, 8, 9, 10, 11, 12, 13, 17, 18, 19] K119_37)
@[simp] def W119_38 := @C.wpe _ _ K119_38.eq_1
def K119_39 : C := .seq (.seq (.pl <| .st (.ext 20 0) <|
    .st (.act none (.px (some 14) (.mv (.v 1)))) <|
    .st (.act none (.px (some 15) (.lenV (.v 14)))) <|
    .st (.act none (.px (some 16) (.mv (.c (.int .i64 0))))) .done) K119_38) K119_30
@[simp] def W119_39 := @C.wpe _ _ K119_39.eq_1
def K119_40 : C := .seq (.pl <| .st (.ext 20 0) <|
    .st (.act none (.px (some 6) (.mv (.c (.slice none 0 0))))) .done) K119_39
@[simp] def W119_40 := @C.wpe _ _ K119_40.eq_1
def K119_41 : C := .pl <| .st (.ext 20 1) <|
    .st (.act none (.px (some 20) (.bin .add (.v 13) (.c (.int .i64 1))))) <|
    .st (.act none (.px (some 13) (.mv (.v 20)))) .done
@[simp] def W119_41 := @C.wpe _ _ K119_41.eq_1
def K119_42 : C := .pl <| .st (.ext 20 3) <|
    .st (.act none (.px (some 20) (.mv (.v 4)))) <|
    .st (.act none (.px (some 21) (.mv (.v 5)))) <|
    .st (.act none (.px (some 22) (.ia 1 (.v 20) (.v 21)))) <|
    .st (.act none (.ex none (.store 1 (.v 22) (.c (.int .i64 (-2)))))) .done
@[simp] def W119_42 := @C.wpe _ _ K119_42.eq_1
def K119_43 : C := .seq (.block 1 (.seq (.pl <| .st (.ext 20 1) <|
    .st (.act none (.px (some 20) (.mv (.v 13)))) <|
    .st (.act none (.px (some 5) (.mv (.v 20)))) .done) K119_42)) K119_41
@[simp] def W119_43 := @C.wpe _ _ K119_43.eq_1
def K119_44 : C := .seq (.cond 20 (.v 20) (.skip) (.exit 0)) K119_43
@[simp] def W119_44 := @C.wpe _ _ K119_44.eq_1
def K119_45 : C := .seq (.pl <| .st (.ext 20 1) <|
    .st (.act none (.px (some 20) (.bin .lss (.v 13) (.v 12)))) .done) K119_44
@[simp] def W119_45 := @C.wpe _ _ K119_45.eq_1
def K119_46 : C := .block 0 (.loop 20 [3, 5, 6, 7, 8, 9, 10, 11, 14, 15, 16, 17, 18, 19] K119_45)
@[simp] def W119_46 := @C.wpe _ _ K119_46.eq_1
def K119_47 : C := .seq (.seq (.pl <| .st (.ext 20 1) <|
    .st (.act none (.px (some 20) (.mv (.v 4)))) <|
    .st (.act none (.px (some 12) (.lenV (.v 20)))) <|
    .st (.act none (.px (some 13) (.mv (.c (.int .i64 0))))) .done) K119_46) K119_40
@[simp] def W119_47 := @C.wpe _ _ K119_47.eq_1
def K119_48 : Pl := .st (.act none (.px (some 4) (.mv (.v 22)))) .done
@[simp] def W119_48 := @Pl.wpe _ _ K119_48.eq_1
def K119_49 : C := .seq (.pl <| .st (.ext 20 3) <|
    .st (.act none (.px (some 20) (.mv (.v 0)))) <|
    .st (.act none (.px (some 21) (.lenV (.v 20)))) <|
    .st (.act none (.ex (some 22) (.mks 8 1 [.int .i64 0] (.v 21) (.v 21)))) K119_48) K119_47
@[simp] def W119_49 := @C.wpe _ _ K119_49.eq_1
def B_impl_shortest : C := .seq (.pl <| .st (.ext 20 0) <|
    .st (.act none (.px (some 3) (.mv (.c (.slice none 0 0))))) .done) K119_49
@[simp] def WB_impl_shortest := @C.wpe _ _ B_impl_shortest.eq_1
def R_impl_shortest : FIR := ⟨B_impl_shortest, 20, [(3, none)]⟩
theorem IR_impl_shortest : cfun Tryz.prog H_impl_shortest Tryz.f119 = some R_impl_shortest := by kernel_rfl
theorem EN_impl_shortest {args : List Value} {h : Heap} {k : Value → Heap → Prop} (hargs : args.length = 3) (hw : B_impl_shortest.wp Tryz.prog (retQ [(3, none)] k) (env0 args 20) h) : CallE Tryz.prog fn_impl_shortest args h k := enter Tryz.func119 rfl IR_impl_shortest hargs hw

def H_slices_Reverse_S_int_int : Hint := ⟨[(0, false), (2, false), (3, false)], [[]]⟩
def K129_1 : C := .pl <| .st (.ext 3 4) <|
    .st (.act none (.px (some 3) (.mv (.v 1)))) <|
    .st (.act none (.px (some 4) (.bin .add (.v 3) (.c (.int .i64 1))))) <|
    .st (.act none (.px (some 5) (.mv (.v 2)))) <|
    .st (.act none (.px (some 6) (.bin .sub (.v 5) (.c (.int .i64 1))))) <|
    .st (.act none (.px (some 1) (.mv (.v 4)))) <|
    .st (.act none (.px (some 2) (.mv (.v 6)))) .done
@[simp] def W129_1 := @C.wpe _ _ K129_1.eq_1
def K129_2 : Pl := .st (.act none (.px (some 16) (.ia 1 (.v 5) (.v 6)))) <|
    .st (.act none (.ex none (.store 1 (.v 16) (.v 14)))) .done
@[simp] def W129_2 := @Pl.wpe _ _ K129_2.eq_1
def K129_3 : C := .seq (.block 1 (.pl <| .st (.ext 3 14) <|
    .st (.act none (.px (some 3) (.mv (.v 0)))) <|
    .st (.act none (.px (some 4) (.mv (.v 1)))) <|
    .st (.act none (.px (some 5) (.mv (.v 0)))) <|
    .st (.act none (.px (some 6) (.mv (.v 2)))) <|
    .st (.act none (.px (some 7) (.mv (.v 0)))) <|
    .st (.act none (.px (some 8) (.mv (.v 2)))) <|
    .st (.act none (.px (some 9) (.ia 1 (.v 7) (.v 8)))) <|
    .st (.act none (.ld (some 10) (.v 9) none)) <|
    .st (.act none (.px (some 11) (.mv (.v 0)))) <|
    .st (.act none (.px (some 12) (.mv (.v 1)))) <|
    .st (.act none (.px (some 13) (.ia 1 (.v 11) (.v 12)))) <|
    .st (.act none (.ld (some 14) (.v 13) none)) <|
    .st (.act none (.px (some 15) (.ia 1 (.v 3) (.v 4)))) <|
    .st (.act none (.ex none (.store 1 (.v 15) (.v 10)))) K129_2)) K129_1
@[simp] def W129_3 := @C.wpe _ _ K129_3.eq_1
def K129_4 : C := .cond 3 (.v 5) (.skip) (.exit 0)
@[simp] def W129_4 := @C.wpe _ _ K129_4.eq_1
def K129_5 : C := .seq (.seq (.pl <| .st (.ext 3 3) <|
    .st (.act none (.px (some 3) (.mv (.v 1)))) <|
    .st (.act none (.px (some 4) (.mv (.v 2)))) <|
    .st (.act none (.px (some 5) (.bin .lss (.v 3) (.v 4)))) .done) K129_4) K129_3
@[simp] def W129_5 := @C.wpe _ _ K129_5.eq_1
def K129_6 : C := .block 0 (.loop 3 [] K129_5)
@[simp] def W129_6 := @C.wpe _ _ K129_6.eq_1
def B_slices_Reverse_S_int_int : C := .seq (.pl <| .st (.ext 3 3) <|
    .st (.act none (.px (some 3) (.mv (.v 0)))) <|
    .st (.act none (.px (some 4) (.lenV (.v 3)))) <|
    .st (.act none (.px (some 5) (.bin .sub (.v 4) (.c (.int .i64 1))))) <|
    .st (.act none (.px (some 1) (.mv (.c (.int .i64 0))))) <|
    .st (.act none (.px (some 2) (.mv (.v 5)))) .done) K129_6
@[simp] def WB_slices_Reverse_S_int_int := @C.wpe _ _ B_slices_Reverse_S_int_int.eq_1
def R_slices_Reverse_S_int_int : FIR := ⟨B_slices_Reverse_S_int_int, 3, []⟩
theorem IR_slices_Reverse_S_int_int : cfun Tryz.prog H_slices_Reverse_S_int_int Tryz.f129 = some R_slices_Reverse_S_int_int := by kernel_rfl
theorem EN_slices_Reverse_S_int_int {args : List Value} {h : Heap} {k : Value → Heap → Prop} (hargs : args.length = 1) (hw : B_slices_Reverse_S_int_int.wp Tryz.prog (retQ [] k) (env0 args 3) h) : CallE Tryz.prog fn_slices_Reverse_S_int_int args h k := enter Tryz.func129 rfl IR_slices_Reverse_S_int_int hargs hw

def H_spec_l4First : Hint := ⟨[(0, false), (1, false), (2, true), (4, false), (5, false), (6, false), (8, false)], [[0, 3, 4]]⟩
def K56_1 : Pl := .st (.act none (.px (some 3) (.mv (.c (.int .i64 0))))) <|
    .st (.act none (.px (some 4) (.mv (.v 7)))) .done
@[simp] def W56_1 := @Pl.wpe _ _ K56_1.eq_1
def K56_2 : C := .seq (.pl <| .st (.ext 7 1) <|
    .st (.act none (.ex (some 7) (.bls 2 0 [.slice none 0 0, .slice none 0 0] []))) K56_1) (.ret)
@[simp] def W56_2 := @C.wpe _ _ K56_2.eq_1
def K56_3 : C := .pl <| .st (.ext 7 2) <|
    .st (.act none (.px (some 7) (.mv (.v 6)))) <|
    .st (.act none (.px (some 8) (.bin .add (.v 7) (.c (.int .i64 1))))) <|
    .st (.act none (.px (some 6) (.mv (.v 8)))) .done
@[simp] def W56_3 := @C.wpe _ _ K56_3.eq_1
def K56_4 : Pl := .st (.act none (.px (some 3) (.mv (.c (.int .i64 1))))) <|
    .st (.act none (.px (some 4) (.mv (.v 11)))) .done
@[simp] def W56_4 := @Pl.wpe _ _ K56_4.eq_1
def K56_5 : Pl := .st (.act none (.ex (some 11) (.call fn_spec_l4States [.v 7, .v 10]))) K56_4
@[simp] def W56_5 := @Pl.wpe _ _ K56_5.eq_1
def K56_6 : C := .seq (.pl <| .st (.ext 7 5) <|
    .st (.act none (.pget (some 7) none 2 0 (some 2))) <|
    .st (.act none (.px (some 8) (.mv (.v 5)))) <|
    .st (.act none (.px (some 9) (.mv (.v 6)))) <|
    .st (.act none (.ex (some 10) (.call fn_spec_l4Path [.v 8, .c (.int .i64 0), .v 9]))) K56_5) (.ret)
@[simp] def W56_6 := @C.wpe _ _ K56_6.eq_1
def K56_7 : C := .cond 7 (.v 10) K56_6 (.skip)
@[simp] def W56_7 := @C.wpe _ _ K56_7.eq_1
def K56_8 : C := .seq (.block 1 (.seq (.pl <| .st (.ext 7 4) <|
    .st (.act none (.px (some 7) (.mv (.v 1)))) <|
    .st (.act none (.px (some 8) (.mv (.v 6)))) <|
    .st (.act none (.px (some 9) (.ia 1 (.v 7) (.v 8)))) <|
    .st (.act none (.ld (some 10) (.v 9) none)) .done) K56_7)) K56_3
@[simp] def W56_8 := @C.wpe _ _ K56_8.eq_1
def K56_9 : C := .cond 7 (.v 11) (.skip) (.exit 0)
@[simp] def W56_9 := @C.wpe _ _ K56_9.eq_1
def K56_10 : C := .seq (.seq (.pl <| .st (.ext 7 5) <|
    .st (.act none (.px (some 7) (.mv (.v 6)))) <|
    .st (.act none (.als 8 none 2)) <|
    .st (.act none (.pget (some 9) (some 8) 2 0 none)) <|
    .st (.act none (.px (some 10) (.lenV (.v 9)))) <|
    .st (.act none (.px (some 11) (.bin .lss (.v 7) (.v 10)))) .done) K56_9) K56_8
@[simp] def W56_10 := @C.wpe _ _ K56_10.eq_1
def K56_11 : C := .block 0 (.loop 7 [0, 3, 4] K56_10)
@[simp] def W56_11 := @C.wpe _ _ K56_11.eq_1
def K56_12 : C := .seq (.seq (.pl <| .st (.ext 7 0) <|
    .st (.act none (.px (some 6) (.mv (.c (.int .i64 0))))) .done) K56_11) K56_2
@[simp] def W56_12 := @C.wpe _ _ K56_12.eq_1
def K56_13 : Pl := .st (.act none (.px (some 10) (.mv (.v 9)))) <|
    .st (.act none (.px (some 11) (.extract 0 (.v 10)))) <|
    .st (.act none (.px (some 12) (.extract 1 (.v 10)))) <|
    .st (.act none (.px (some 5) (.mv (.v 11)))) <|
    .st (.act none (.px (some 13) (.mv (.v 12)))) .done
@[simp] def W56_13 := @Pl.wpe _ _ K56_13.eq_1
def K56_14 : C := .seq (.pl <| .st (.ext 7 7) <|
    .st (.act none (.als 7 none 2)) <|
    .st (.act none (.pget (some 8) (some 7) 2 1 none)) <|
    .st (.act none (.ex (some 9) (.call fn_spec_l4Search [.v 8, .c (.int .i64 0)]))) K56_13) K56_12
@[simp] def W56_14 := @C.wpe _ _ K56_14.eq_1
def B_spec_l4First : C := .seq (.pl <| .st (.ext 7 0) <|
    .st (.act none (.pnew 2 (.v 0) [])) <|
    .st (.act none (.px (some 3) (.mv (.c (.int .i64 0))))) <|
    .st (.act none (.px (some 4) (.mv (.c (.slice none 0 0))))) .done) K56_14
@[simp] def WB_spec_l4First := @C.wpe _ _ B_spec_l4First.eq_1
def R_spec_l4First : FIR := ⟨B_spec_l4First, 7, [(3, none), (4, none)]⟩
theorem IR_spec_l4First : cfun Tryz.prog H_spec_l4First Tryz.f56 = some R_spec_l4First := by kernel_rfl
theorem EN_spec_l4First {args : List Value} {h : Heap} {k : Value → Heap → Prop} (hargs : args.length = 2) (hw : B_spec_l4First.wp Tryz.prog (retQ [(3, none), (4, none)] k) (env0 args 7) h) : CallE Tryz.prog fn_spec_l4First args h k := enter Tryz.func56 rfl IR_spec_l4First hargs hw

def H_spec_l4Path : Hint := ⟨[(0, false), (1, false), (2, false), (6, false), (7, false)], [[2, 3]]⟩
def K98_1 : C := .seq (.pl <| .st (.ext 5 1) <|
    .st (.act none (.px (some 5) (.mv (.v 4)))) <|
    .st (.act none (.px (some 3) (.mv (.v 5)))) .done) (.ret)
@[simp] def W98_1 := @C.wpe _ _ K98_1.eq_1
def K98_2 : Pl := .st (.act none (.px (some 4) (.mv (.v 13)))) .done
@[simp] def W98_2 := @Pl.wpe _ _ K98_2.eq_1
def K98_3 : Pl := .st (.act none (.px (some 12) (.mv (.v 4)))) <|
    .st (.act none (.ex (some 13) (.app 8 1 [.int .i64 0] (.o (.v 11)) (.o (.v 12))))) K98_2
@[simp] def W98_3 := @Pl.wpe _ _ K98_3.eq_1
def K98_4 : C := .block 1 (.pl <| .st (.ext 5 9) <|
    .st (.act none (.px (some 5) (.mv (.v 0)))) <|
    .st (.act none (.px (some 6) (.mv (.v 4)))) <|
    .st (.act none (.px (some 7) (.ia 1 (.v 6) (.c (.int .i64 0))))) <|
    .st (.act none (.ld (some 8) (.v 7) none)) <|
    .st (.act none (.px (some 9) (.ia 1 (.v 5) (.v 8)))) <|
    .st (.act none (.ld (some 10) (.v 9) none)) <|
    .st (.act none (.ex (some 11) (.bls 1 1 [.int .i64 0] [(0, 1, .v 10)]))) K98_3)
@[simp] def W98_4 := @C.wpe _ _ K98_4.eq_1
def K98_5 : C := .cond 5 (.v 9) (.skip) (.exit 0)
@[simp] def W98_5 := @C.wpe _ _ K98_5.eq_1
def K98_6 : C := .seq (.seq (.pl <| .st (.ext 5 5) <|
    .st (.act none (.px (some 5) (.mv (.v 4)))) <|
    .st (.act none (.px (some 6) (.ia 1 (.v 5) (.c (.int .i64 0))))) <|
    .st (.act none (.ld (some 7) (.v 6) none)) <|
    .st (.act none (.px (some 8) (.mv (.v 1)))) <|
    .st (.act none (.px (some 9) (.bin .neq (.v 7) (.v 8)))) .done) K98_5) K98_4
@[simp] def W98_6 := @C.wpe _ _ K98_6.eq_1
def K98_7 : C := .seq (.block 0 (.loop 5 [2, 3] K98_6)) K98_1
@[simp] def W98_7 := @C.wpe _ _ K98_7.eq_1
def K98_8 : Pl := .st (.act none (.px (some 4) (.mv (.v 6)))) .done
@[simp] def W98_8 := @Pl.wpe _ _ K98_8.eq_1
def K98_9 : C := .seq (.pl <| .st (.ext 5 2) <|
    .st (.act none (.px (some 5) (.mv (.v 2)))) <|
    .st (.act none (.ex (some 6) (.bls 1 1 [.int .i64 0] [(0, 1, .v 5)]))) K98_8) K98_7
@[simp] def W98_9 := @C.wpe _ _ K98_9.eq_1
def B_spec_l4Path : C := .seq (.pl <| .st (.ext 5 0) <|
    .st (.act none (.px (some 3) (.mv (.c (.slice none 0 0))))) .done) K98_9
@[simp] def WB_spec_l4Path := @C.wpe _ _ B_spec_l4Path.eq_1
def R_spec_l4Path : FIR := ⟨B_spec_l4Path, 5, [(3, none)]⟩
theorem IR_spec_l4Path : cfun Tryz.prog H_spec_l4Path Tryz.f98 = some R_spec_l4Path := by kernel_rfl
theorem EN_spec_l4Path {args : List Value} {h : Heap} {k : Value → Heap → Prop} (hargs : args.length = 3) (hw : B_spec_l4Path.wp Tryz.prog (retQ [(3, none)] k) (env0 args 5) h) : CallE Tryz.prog fn_spec_l4Path args h k := enter Tryz.func98 rfl IR_spec_l4Path hargs hw

def H_spec_l4Search : Hint := ⟨[(0, false), (1, false), (4, false), (5, false), (6, false), (7, false), (8, false), (9, false), (10, false), (11, false), (12, false)], [[2, 3, 7, 8, 9, 10], [1, 2, 3, 6, 9, 10], [1, 2, 3, 6, 10]]⟩
def K96_1 : C := .seq (.pl <| .st (.ext 11 2) <|
    .st (.act none (.px (some 11) (.mv (.v 4)))) <|
    .st (.act none (.px (some 12) (.mv (.v 7)))) <|
    .st (.act none (.px (some 2) (.mv (.v 11)))) <|
    .st (.act none (.px (some 3) (.mv (.v 12)))) .done) (.ret)
@[simp] def W96_1 := @C.wpe _ _ K96_1.eq_1
def K96_2 : C := .pl <| .st (.ext 11 2) <|
    .st (.act none (.px (some 11) (.mv (.v 8)))) <|
    .st (.act none (.px (some 12) (.bin .add (.v 11) (.c (.int .i64 1))))) <|
    .st (.act none (.px (some 8) (.mv (.v 12)))) .done
@[simp] def W96_2 := @C.wpe _ _ K96_2.eq_1
def K96_3 : C := .pl <| .st (.ext 11 2) <|
    .st (.act none (.px (some 11) (.mv (.v 9)))) <|
    .st (.act none (.px (some 12) (.bin .add (.v 11) (.c (.int .i64 1))))) <|
    .st (.act none (.px (some 9) (.mv (.v 12)))) .done
@[simp] def W96_3 := @C.wpe _ _ K96_3.eq_1
def K96_4 : Pl := .st (.act none (.px (some 7) (.mv (.v 14)))) .done
@[simp] def W96_4 := @Pl.wpe _ _ K96_4.eq_1
def K96_5 : C := .pl <| .st (.ext 11 4) <|
    .st (.act none (.px (some 11) (.mv (.v 7)))) <|
    .st (.act none (.px (some 12) (.mv (.v 10)))) <|
    .st (.act none (.psl 13 [.int .i64 0] [(0, 1, .v 12)])) <|
    .st (.act none (.ex (some 14) (.app 8 1 [.int .i64 0] (.o (.v 11)) (.p 1 13)))) K96_4
@[simp] def W96_5 := @C.wpe _ _ K96_5.eq_1
def K96_6 : C := .seq (.pl <| .st (.ext 11 7) <|
    .st (.act none (.px (some 11) (.mv (.v 4)))) <|
    .st (.act none (.px (some 12) (.mv (.v 10)))) <|
    .st (.act none (.px (some 13) (.mv (.v 7)))) <|
    .st (.act none (.px (some 14) (.mv (.v 8)))) <|
    .st (.act none (.px (some 15) (.ia 1 (.v 13) (.v 14)))) <|
    .st (.act none (.ld (some 16) (.v 15) none)) <|
    .st (.act none (.px (some 17) (.ia 1 (.v 11) (.v 12)))) <|
    .st (.act none (.ex none (.store 1 (.v 17) (.v 16)))) .done) K96_5
@[simp] def W96_6 := @C.wpe _ _ K96_6.eq_1
def K96_7 : C := .seq (.pl <| .st (.ext 11 3) <|
    .st (.act none (.px (some 11) (.mv (.v 5)))) <|
    .st (.act none (.px (some 12) (.mv (.v 10)))) <|
    .st (.act none (.px (some 13) (.ia 1 (.v 11) (.v 12)))) <|
    .st (.act none (.ex none (.store 1 (.v 13) (.c (.bool true))))) .done) K96_6
@[simp] def W96_7 := @C.wpe _ _ K96_7.eq_1
def K96_8 : C := .cond 11 (.v 15) K96_7 (.skip)
@[simp] def W96_8 := @C.wpe _ _ K96_8.eq_1
def K96_9 : C := .seq (.pl <| .st (.ext 11 5) <|
    .st (.act none (.px (some 11) (.mv (.v 5)))) <|
    .st (.act none (.px (some 12) (.mv (.v 10)))) <|
    .st (.act none (.px (some 13) (.ia 1 (.v 11) (.v 12)))) <|
    .st (.act none (.ld (some 14) (.v 13) none)) <|
    .st (.act none (.px (some 15) (.un .not (.v 14)))) .done) K96_8
@[simp] def W96_9 := @C.wpe _ _ K96_9.eq_1
def K96_10 : C := .seq (.block 5 (.seq (.pl <| .st (.ext 11 10) <|
    .st (.act none (.px (some 11) (.mv (.v 0)))) <|
    .st (.act none (.px (some 12) (.mv (.v 7)))) <|
    .st (.act none (.px (some 13) (.mv (.v 8)))) <|
    .st (.act none (.px (some 14) (.ia 1 (.v 12) (.v 13)))) <|
    .st (.act none (.ld (some 15) (.v 14) none)) <|
    .st (.act none (.px (some 16) (.ia 1 (.v 11) (.v 15)))) <|
    .st (.act none (.ld (some 17) (.v 16) none)) <|
    .st (.act none (.px (some 18) (.mv (.v 9)))) <|
    .st (.act none (.px (some 19) (.ia 1 (.v 17) (.v 18)))) <|
    .st (.act none (.ld (some 20) (.v 19) none)) <|
    .st (.act none (.px (some 10) (.mv (.v 20)))) .done) K96_9)) K96_3
@[simp] def W96_10 := @C.wpe _ _ K96_10.eq_1
def K96_11 : C := .cond 11 (.v 20) (.skip) (.exit 4)
@[simp] def W96_11 := @C.wpe _ _ K96_11.eq_1
def K96_12 : C := .seq (.seq (.pl <| .st (.ext 11 10) <|
    .st (.act none (.px (some 11) (.mv (.v 9)))) <|
    .st (.act none (.px (some 12) (.mv (.v 0)))) <|
    .st (.act none (.px (some 13) (.mv (.v 7)))) <|
    .st (.act none (.px (some 14) (.mv (.v 8)))) <|
    .st (.act none (.px (some 15) (.ia 1 (.v 13) (.v 14)))) <|
    .st (.act none (.ld (some 16) (.v 15) none)) <|
    .st (.act none (.px (some 17) (.ia 1 (.v 12) (.v 16)))) <|
    .st (.act none (.ld (some 18) (.v 17) none)) <|
    .st (.act none (.px (some 19) (.lenV (.v 18)))) <|
    .st (.act none (.px (some 20) (.bin .lss (.v 11) (.v 19)))) .done) K96_11) K96_10
@[simp] def W96_12 := @C.wpe _ _ K96_12.eq_1
def K96_13 : C := .block 4 (.loop 11 [1, 2, 3, 6, 10] K96_12)
@[simp] def W96_13 := @C.wpe _ _ K96_13.eq_1
def K96_14 : C := .seq (.block 3 (.seq (.pl <| .st (.ext 11 0) <|
    .st (.act none (.px (some 9) (.mv (.c (.int .i64 0))))) .done) K96_13)) K96_2
@[simp] def W96_14 := @C.wpe _ _ K96_14.eq_1
def K96_15 : C := .cond 11 (.v 14) (.skip) (.exit 2)
@[simp] def W96_15 := @C.wpe _ _ K96_15.eq_1
def K96_16 : C := .seq (.seq (.pl <| .st (.ext 11 4) <|
    .st (.act none (.px (some 11) (.mv (.v 8)))) <|
    .st (.act none (.px (some 12) (.mv (.v 7)))) <|
    .st (.act none (.px (some 13) (.lenV (.v 12)))) <|
    .st (.act none (.px (some 14) (.bin .lss (.v 11) (.v 13)))) .done) K96_15) K96_14
@[simp] def W96_16 := @C.wpe _ _ K96_16.eq_1
def K96_17 : C := .block 2 (.loop 11 [1, 2, 3, 6, 9, 10] K96_16)
@[simp] def W96_17 := @C.wpe _ _ K96_17.eq_1
def K96_18 : C := .seq (.seq (.pl <| .st (.ext 11 0) <|
    .st (.act none (.px (some 8) (.mv (.c (.int .i64 0))))) .done) K96_17) K96_1
@[simp] def W96_18 := @C.wpe _ _ K96_18.eq_1
def K96_19 : C := .seq (.pl <| .st (.ext 11 3) <|
    .st (.act none (.px (some 11) (.mv (.v 5)))) <|
    .st (.act none (.px (some 12) (.mv (.v 1)))) <|
    .st (.act none (.px (some 13) (.ia 1 (.v 11) (.v 12)))) <|
    .st (.act none (.ex none (.store 1 (.v 13) (.c (.bool true))))) .done) K96_18
@[simp] def W96_19 := @C.wpe _ _ K96_19.eq_1
def K96_20 : Pl := .st (.act none (.px (some 7) (.mv (.v 12)))) .done
@[simp] def W96_20 := @Pl.wpe _ _ K96_20.eq_1
def K96_21 : C := .seq (.pl <| .st (.ext 11 2) <|
    .st (.act none (.px (some 11) (.mv (.v 1)))) <|
    .st (.act none (.ex (some 12) (.bls 1 1 [.int .i64 0] [(0, 1, .v 11)]))) K96_20) K96_19
@[simp] def W96_21 := @C.wpe _ _ K96_21.eq_1
def K96_22 : C := .pl <| .st (.ext 11 2) <|
    .st (.act none (.px (some 11) (.mv (.v 6)))) <|
    .st (.act none (.px (some 12) (.bin .add (.v 11) (.c (.int .i64 1))))) <|
    .st (.act none (.px (some 6) (.mv (.v 12)))) .done
@[simp] def W96_22 := @C.wpe _ _ K96_22.eq_1
def K96_23 : Pl := .st (.act none (.px (some 4) (.mv (.v 13)))) .done
@[simp] def W96_23 := @Pl.wpe _ _ K96_23.eq_1
def K96_24 : C := .seq (.block 1 (.pl <| .st (.ext 11 3) <|
    .st (.act none (.px (some 11) (.mv (.v 4)))) <|
    .st (.act none (.psl 12 [.int .i64 0] [(0, 1, .c (.int .i64 (-1)))])) <|
    .st (.act none (.ex (some 13) (.app 8 1 [.int .i64 0] (.o (.v 11)) (.p 1 12)))) K96_23)) K96_22
@[simp] def W96_24 := @C.wpe _ _ K96_24.eq_1
def K96_25 : C := .cond 11 (.v 14) (.skip) (.exit 0)
@[simp] def W96_25 := @C.wpe _ _ K96_25.eq_1
def K96_26 : C := .seq (.seq (.pl <| .st (.ext 11 4) <|
    .st (.act none (.px (some 11) (.mv (.v 6)))) <|
    .st (.act none (.px (some 12) (.mv (.v 0)))) <|
    .st (.act none (.px (some 13) (.lenV (.v 12)))) <|
    .st (.act none (.px (some 14) (.bin .lss (.v 11) (.v 13)))) .done) K96_25) K96_24
@[simp] def W96_26 := @C.wpe _ _ K96_26.eq_1
def K96_27 : C := .block 0 (.loop 11 [2, 3, 7, 8, 9, 10] K96_26)
@[simp] def W96_27 := @C.wpe _ _ K96_27.eq_1
def K96_28 : C := .seq (.seq (.pl <| .st (.ext 11 0) <|
    .st (.act none (.px (some 6) (.mv (.c (.int .i64 0))))) .done) K96_27) K96_21
@[simp] def W96_28 := @C.wpe _ _ K96_28.eq_1
def K96_29 : Pl := .st (.act none (.px (some 5) (.mv (.v 13)))) .done
@[simp] def W96_29 := @Pl.wpe _ _ K96_29.eq_1
def K96_30 : C := .seq (.pl <| .st (.ext 11 3) <|
    .st (.act none (.px (some 11) (.mv (.v 0)))) <|
    .st (.act none (.px (some 12) (.lenV (.v 11)))) <|
    .st (.act none (.ex (some 13) (.mks 1 1 [.bool false] (.v 12) (.v 12)))) K96_29) K96_28
@[simp] def W96_30 := @C.wpe _ _ K96_30.eq_1
def K96_31 : Pl := .st (.act none (.px (some 4) (.mv (.v 11)))) .done
@[simp] def W96_31 := @Pl.wpe _ _ K96_31.eq_1
def K96_32 : C := .seq (.pl <| .st (.ext 11 1) <|
    .st (.act none (.ex (some 11) (.bls 1 0 [.int .i64 0] []))) K96_31) K96_30
@[simp] def W96_32 := @C.wpe _ _ K96_32.eq_1
def B_spec_l4Search : C := .seq (.pl <| .st (.ext 11 0) <|
    .st (.act none (.px (some 2) (.mv (.c (.slice none 0 0))))) <|
    .st (.act none (.px (some 3) (.mv (.c (.slice none 0 0))))) .done) K96_32
@[simp] def WB_spec_l4Search := @C.wpe _ _ B_spec_l4Search.eq_1
def R_spec_l4Search : FIR := ⟨B_spec_l4Search, 11, [(2, none), (3, none)]⟩
theorem IR_spec_l4Search : cfun Tryz.prog H_spec_l4Search Tryz.f96 = some R_spec_l4Search := by kernel_rfl
theorem EN_spec_l4Search {args : List Value} {h : Heap} {k : Value → Heap → Prop} (hargs : args.length = 2) (hw : B_spec_l4Search.wp Tryz.prog (retQ [(2, none), (3, none)] k) (env0 args 11) h) : CallE Tryz.prog fn_spec_l4Search args h k := enter Tryz.func96 rfl IR_spec_l4Search hargs hw

def H_spec_l4States : Hint := ⟨[(0, false), (1, false), (2, true), (4, false), (5, false), (6, false), (7, true)], [[0, 3, 6]]⟩
def K97_1 : C := .seq (.pl <| .st (.ext 7 1) <|
    .st (.act none (.px (some 7) (.mv (.v 4)))) <|
    .st (.act none (.px (some 3) (.mv (.v 7)))) .done) (.ret)
@[simp] def W97_1 := @C.wpe _ _ K97_1.eq_1
def K97_2 : C := .pl <| .st (.ext 7 2) <|
    .st (.act none (.px (some 7) (.mv (.v 5)))) <|
    .st (.act none (.px (some 8) (.bin .add (.v 7) (.c (.int .i64 1))))) <|
    .st (.act none (.px (some 5) (.mv (.v 8)))) .done
@[simp] def W97_2 := @C.wpe _ _ K97_2.eq_1
def K97_3 : Pl := .st (.act none (.px (some 4) (.mv (.v 18)))) .done
@[simp] def W97_3 := @Pl.wpe _ _ K97_3.eq_1
def K97_4 : Pl := .st (.act none (.px (some 16) (.build [.slice none 0 0, .slice none 0 0] [(0, 1, .v 11), (1, 1, .v 15)]))) <|
    .st (.act none (.psl 17 [.slice none 0 0, .slice none 0 0] [(0, 2, .v 16)])) <|
    .st (.act none (.ex (some 18) (.app 48 2 [.slice none 0 0, .slice none 0 0] (.o (.v 7)) (.p 1 17)))) K97_3
@[simp] def W97_4 := @Pl.wpe _ _ K97_4.eq_1
def K97_5 : Pl := .st (.act none (.ex (some 15) (.app 8 1 [.int .i64 0] (.p 0 12) (.o (.v 14))))) K97_4
@[simp] def W97_5 := @Pl.wpe _ _ K97_5.eq_1
def K97_6 : C := .pl <| .st (.ext 7 12) <|
    .st (.act none (.px (some 7) (.mv (.v 4)))) <|
    .st (.act none (.psl 8 [] [])) <|
    .st (.act none (.als 9 none 6)) <|
    .st (.act none (.pget (some 10) (some 9) 6 0 none)) <|
    .st (.act none (.psl 12 [] [])) <|
    .st (.act none (.als 13 none 6)) <|
    .st (.act none (.pget (some 14) (some 13) 6 1 none)) <|
    .st (.act none (.ex (some 11) (.app 8 1 [.int .i64 0] (.p 0 8) (.o (.v 10))))) K97_5
@[simp] def W97_6 := @C.wpe _ _ K97_6.eq_1
def K97_7 : C := .seq (.block 1 (.seq (.pl <| .st (.ext 7 8) <|
    .st (.act none (.als 7 none 2)) <|
    .st (.act none (.pget (some 8) (some 7) 2 0 none)) <|
    .st (.act none (.px (some 9) (.mv (.v 1)))) <|
    .st (.act none (.px (some 10) (.mv (.v 5)))) <|
    .st (.act none (.px (some 11) (.ia 1 (.v 9) (.v 10)))) <|
    .st (.act none (.ld (some 12) (.v 11) none)) <|
    .st (.act none (.px (some 13) (.ia 2 (.v 8) (.v 12)))) <|
    .st (.act none (.ld (some 14) (.v 13) (some 2))) <|
    .st (.act none (.pnew 6 (.c (.agg #[.slice none 0 0, .slice none 0 0])) [])) <|
    .st (.act none (.pset none 6 0 2 (.v 14))) .done) K97_6)) K97_2
@[simp] def W97_7 := @C.wpe _ _ K97_7.eq_1
def K97_8 : C := .cond 7 (.v 10) (.skip) (.exit 0)
@[simp] def W97_8 := @C.wpe _ _ K97_8.eq_1
def K97_9 : C := .seq (.seq (.pl <| .st (.ext 7 4) <|
    .st (.act none (.px (some 7) (.mv (.v 5)))) <|
    .st (.act none (.px (some 8) (.mv (.v 1)))) <|
    .st (.act none (.px (some 9) (.lenV (.v 8)))) <|
    .st (.act none (.px (some 10) (.bin .lss (.v 7) (.v 9)))) .done) K97_8) K97_7
@[simp] def W97_9 := @C.wpe _ _ K97_9.eq_1
def K97_10 : C := .block 0 (.loop 7 [0, 3, 6] K97_9)
@[simp] def W97_10 := @C.wpe _ _ K97_10.eq_1
def K97_11 : C := .seq (.seq (.pl <| .st (.ext 7 0) <|
    .st (.act none (.px (some 5) (.mv (.c (.int .i64 0))))) .done) K97_10) K97_1
@[simp] def W97_11 := @C.wpe _ _ K97_11.eq_1
def K97_12 : Pl := .st (.act none (.px (some 4) (.mv (.v 7)))) .done
@[simp] def W97_12 := @Pl.wpe _ _ K97_12.eq_1
def K97_13 : C := .seq (.pl <| .st (.ext 7 1) <|
    .st (.act none (.ex (some 7) (.bls 2 0 [.slice none 0 0, .slice none 0 0] []))) K97_12) K97_11
@[simp] def W97_13 := @C.wpe _ _ K97_13.eq_1
def B_spec_l4States : C := .seq (.pl <| .st (.ext 7 0) <|
    .st (.act none (.pnew 2 (.v 0) [])) <|
    .st (.act none (.px (some 3) (.mv (.c (.slice none 0 0))))) .done) K97_13
@[simp] def WB_spec_l4States := @C.wpe _ _ B_spec_l4States.eq_1
def R_spec_l4States : FIR := ⟨B_spec_l4States, 7, [(3, none)]⟩
theorem IR_spec_l4States : cfun Tryz.prog H_spec_l4States Tryz.f97 = some R_spec_l4States := by kernel_rfl
theorem EN_spec_l4States {args : List Value} {h : Heap} {k : Value → Heap → Prop} (hargs : args.length = 2) (hw : B_spec_l4States.wp Tryz.prog (retQ [(3, none)] k) (env0 args 7) h) : CallE Tryz.prog fn_spec_l4States args h k := enter Tryz.func97 rfl IR_spec_l4States hargs hw


end Go.Proofs.YthgimpheeemooaaGreat

/-
  Bodies of functions in the small language, as a program printed them, and that each is what the translation gives.
-/
namespace Go.Proofs.YthgimpheeemooaaGreat
open Go
set_option linter.all false
set_option linter.defProp false
set_option maxRecDepth 1000000

def H_slices_IndexFunc_S_impl_Edge_impl_Edge : Hint := ⟨[(0, false), (1, false), (4, false), (5, false), (7, false), (8, false)], [[2, 3]]⟩
def K110_1 : C := .seq (.pl <| .st (.ext 6 0) <|
    .st (.act none (.px (some 2) (.mv (.c (.int .i64 (-1)))))) .done) (.ret)
@[simp] def W110_1 := @C.wpe _ _ K110_1.eq_1
def K110_2 : C := .pl <| .st (.ext 6 1) <|
    .st (.act none (.px (some 6) (.bin .add (.v 5) (.c (.int .i64 1))))) <|
    .st (.act none (.px (some 5) (.mv (.v 6)))) .done
@[simp] def W110_2 := @C.wpe _ _ K110_2.eq_1
def K110_3 : C := .seq (.pl <| .st (.ext 6 1) <|
    .st (.act none (.px (some 6) (.mv (.v 3)))) <|
    .st (.act none (.px (some 2) (.mv (.v 6)))) .done) (.ret)
@[simp] def W110_3 := @C.wpe _ _ K110_3.eq_1
def K110_4 : C := .cond 6 (.v 11) K110_3 (.skip)
@[simp] def W110_4 := @C.wpe _ _ K110_4.eq_1
def K110_5 : C := .seq (.pl <| .st (.ext 6 6) <|
    .st (.act none (.px (some 6) (.mv (.v 1)))) <|
    .st (.act none (.px (some 7) (.mv (.v 0)))) <|
    .st (.act none (.px (some 8) (.mv (.v 3)))) <|
    .st (.act none (.px (some 9) (.ia 10 (.v 7) (.v 8)))) <|
    .st (.act none (.ld (some 10) (.v 9) (some 10))) <|
    .st (.act none (.ex (some 11) (.callv (.v 6) [.v 10]))) .done) K110_4
@[simp] def W110_5 := @C.wpe _ _ K110_5.eq_1
def K110_6 : C := .seq (.block 1 (.seq (.pl <| .st (.ext 6 1) <|
    .st (.act none (.px (some 6) (.mv (.v 5)))) <|
    .st (.act none (.px (some 3) (.mv (.v 6)))) .done) K110_5)) K110_2
@[simp] def W110_6 := @C.wpe _ _ K110_6.eq_1
def K110_7 : C := .seq (.cond 6 (.v 6) (.skip) (.exit 0)) K110_6
@[simp] def W110_7 := @C.wpe _ _ K110_7.eq_1
def K110_8 : C := .seq (.pl <| .st (.ext 6 1) <|
    .st (.act none (.px (some 6) (.bin .lss (.v 5) (.v 4)))) .done) K110_7
@[simp] def W110_8 := @C.wpe _ _ K110_8.eq_1
def K110_9 : C := .block 0 (.loop 6 [2, 3] K110_8)
@[simp] def W110_9 := @C.wpe _ _ K110_9.eq_1
def K110_10 : C := .seq (.seq (.pl <| .st (.ext 6 1) <|
    .st (.act none (.px (some 6) (.mv (.v 0)))) <|
    .st (.act none (.px (some 4) (.lenV (.v 6)))) <|
    .st (.act none (.px (some 5) (.mv (.c (.int .i64 0))))) .done) K110_9) K110_1
@[simp] def W110_10 := @C.wpe _ _ K110_10.eq_1
def B_slices_IndexFunc_S_impl_Edge_impl_Edge : C := .seq (.pl <| .st (.ext 6 0) <|
    .st (.act none (.px (some 2) (.mv (.c (.int .i64 0))))) .done) K110_10
@[simp] def WB_slices_IndexFunc_S_impl_Edge_impl_Edge := @C.wpe _ _ B_slices_IndexFunc_S_impl_Edge_impl_Edge.eq_1
def R_slices_IndexFunc_S_impl_Edge_impl_Edge : FIR := ⟨B_slices_IndexFunc_S_impl_Edge_impl_Edge, 6, [(2, none)]⟩
theorem IR_slices_IndexFunc_S_impl_Edge_impl_Edge : cfun Tryz.prog H_slices_IndexFunc_S_impl_Edge_impl_Edge Tryz.f110 = some R_slices_IndexFunc_S_impl_Edge_impl_Edge := by kernel_rfl
theorem EN_slices_IndexFunc_S_impl_Edge_impl_Edge {args : List Value} {h : Heap} {k : Value → Heap → Prop} (hargs : args.length = 2) (hw : B_slices_IndexFunc_S_impl_Edge_impl_Edge.wp Tryz.prog (retQ [(2, none)] k) (env0 args 6) h) : CallE Tryz.prog fn_slices_IndexFunc_S_impl_Edge_impl_Edge args h k := enter Tryz.func110 rfl IR_slices_IndexFunc_S_impl_Edge_impl_Edge hargs hw

def H_slices_IndexFunc_S_impl_Expr_impl_Expr : Hint := ⟨[(0, false), (1, false), (4, false), (5, false), (7, false), (8, false)], [[2, 3]]⟩
def K132_1 : C := .seq (.pl <| .st (.ext 6 0) <|
    .st (.act none (.px (some 2) (.mv (.c (.int .i64 (-1)))))) .done) (.ret)
@[simp] def W132_1 := @C.wpe _ _ K132_1.eq_1
def K132_2 : C := .pl <| .st (.ext 6 1) <|
    .st (.act none (.px (some 6) (.bin .add (.v 5) (.c (.int .i64 1))))) <|
    .st (.act none (.px (some 5) (.mv (.v 6)))) .done
@[simp] def W132_2 := @C.wpe _ _ K132_2.eq_1
def K132_3 : C := .seq (.pl <| .st (.ext 6 1) <|
    .st (.act none (.px (some 6) (.mv (.v 3)))) <|
    .st (.act none (.px (some 2) (.mv (.v 6)))) .done) (.ret)
@[simp] def W132_3 := @C.wpe _ _ K132_3.eq_1
def K132_4 : C := .cond 6 (.v 11) K132_3 (.skip)
@[simp] def W132_4 := @C.wpe _ _ K132_4.eq_1
def K132_5 : C := .seq (.pl <| .st (.ext 6 6) <|
    .st (.act none (.px (some 6) (.mv (.v 1)))) <|
    .st (.act none (.px (some 7) (.mv (.v 0)))) <|
    .st (.act none (.px (some 8) (.mv (.v 3)))) <|
    .st (.act none (.px (some 9) (.ia 3 (.v 7) (.v 8)))) <|
    .st (.act none (.ld (some 10) (.v 9) (some 3))) <|
    .st (.act none (.ex (some 11) (.callv (.v 6) [.v 10]))) .done) K132_4
@[simp] def W132_5 := @C.wpe _ _ K132_5.eq_1
def K132_6 : C := .seq (.block 1 (.seq (.pl <| .st (.ext 6 1) <|
    .st (.act none (.px (some 6) (.mv (.v 5)))) <|
    .st (.act none (.px (some 3) (.mv (.v 6)))) .done) K132_5)) K132_2
@[simp] def W132_6 := @C.wpe _ _ K132_6.eq_1
def K132_7 : C := .seq (.cond 6 (.v 6) (.skip) (.exit 0)) K132_6
@[simp] def W132_7 := @C.wpe _ _ K132_7.eq_1
def K132_8 : C := .seq (.pl <| .st (.ext 6 1) <|
    .st (.act none (.px (some 6) (.bin .lss (.v 5) (.v 4)))) .done) K132_7
@[simp] def W132_8 := @C.wpe _ _ K132_8.eq_1
def K132_9 : C := .block 0 (.loop 6 [2, 3] K132_8)
@[simp] def W132_9 := @C.wpe _ _ K132_9.eq_1
def K132_10 : C := .seq (.seq (.pl <| .st (.ext 6 1) <|
    .st (.act none (.px (some 6) (.mv (.v 0)))) <|
    .st (.act none (.px (some 4) (.lenV (.v 6)))) <|
    .st (.act none (.px (some 5) (.mv (.c (.int .i64 0))))) .done) K132_9) K132_1
@[simp] def W132_10 := @C.wpe _ _ K132_10.eq_1
def B_slices_IndexFunc_S_impl_Expr_impl_Expr : C := .seq (.pl <| .st (.ext 6 0) <|
    .st (.act none (.px (some 2) (.mv (.c (.int .i64 0))))) .done) K132_10
@[simp] def WB_slices_IndexFunc_S_impl_Expr_impl_Expr := @C.wpe _ _ B_slices_IndexFunc_S_impl_Expr_impl_Expr.eq_1
def R_slices_IndexFunc_S_impl_Expr_impl_Expr : FIR := ⟨B_slices_IndexFunc_S_impl_Expr_impl_Expr, 6, [(2, none)]⟩
theorem IR_slices_IndexFunc_S_impl_Expr_impl_Expr : cfun Tryz.prog H_slices_IndexFunc_S_impl_Expr_impl_Expr Tryz.f132 = some R_slices_IndexFunc_S_impl_Expr_impl_Expr := by kernel_rfl
theorem EN_slices_IndexFunc_S_impl_Expr_impl_Expr {args : List Value} {h : Heap} {k : Value → Heap → Prop} (hargs : args.length = 2) (hw : B_slices_IndexFunc_S_impl_Expr_impl_Expr.wp Tryz.prog (retQ [(2, none)] k) (env0 args 6) h) : CallE Tryz.prog fn_slices_IndexFunc_S_impl_Expr_impl_Expr args h k := enter Tryz.func132 rfl IR_slices_IndexFunc_S_impl_Expr_impl_Expr hargs hw

def H_slices_IndexFunc_S_impl_State_impl_State : Hint := ⟨[(0, false), (1, false), (4, false), (5, false), (7, false), (8, false)], [[2, 3]]⟩
def K84_1 : C := .seq (.pl <| .st (.ext 6 0) <|
    .st (.act none (.px (some 2) (.mv (.c (.int .i64 (-1)))))) .done) (.ret)
@[simp] def W84_1 := @C.wpe _ _ K84_1.eq_1
def K84_2 : C := .pl <| .st (.ext 6 1) <|
    .st (.act none (.px (some 6) (.bin .add (.v 5) (.c (.int .i64 1))))) <|
    .st (.act none (.px (some 5) (.mv (.v 6)))) .done
@[simp] def W84_2 := @C.wpe _ _ K84_2.eq_1
def K84_3 : C := .seq (.pl <| .st (.ext 6 1) <|
    .st (.act none (.px (some 6) (.mv (.v 3)))) <|
    .st (.act none (.px (some 2) (.mv (.v 6)))) .done) (.ret)
@[simp] def W84_3 := @C.wpe _ _ K84_3.eq_1
def K84_4 : C := .cond 6 (.v 11) K84_3 (.skip)
@[simp] def W84_4 := @C.wpe _ _ K84_4.eq_1
def K84_5 : C := .seq (.pl <| .st (.ext 6 6) <|
    .st (.act none (.px (some 6) (.mv (.v 1)))) <|
    .st (.act none (.px (some 7) (.mv (.v 0)))) <|
    .st (.act none (.px (some 8) (.mv (.v 3)))) <|
    .st (.act none (.px (some 9) (.ia 2 (.v 7) (.v 8)))) <|
    .st (.act none (.ld (some 10) (.v 9) (some 2))) <|
    .st (.act none (.ex (some 11) (.callv (.v 6) [.v 10]))) .done) K84_4
@[simp] def W84_5 := @C.wpe _ _ K84_5.eq_1
def K84_6 : C := .seq (.block 1 (.seq (.pl <| .st (.ext 6 1) <|
    .st (.act none (.px (some 6) (.mv (.v 5)))) <|
    .st (.act none (.px (some 3) (.mv (.v 6)))) .done) K84_5)) K84_2
@[simp] def W84_6 := @C.wpe _ _ K84_6.eq_1
def K84_7 : C := .seq (.cond 6 (.v 6) (.skip) (.exit 0)) K84_6
@[simp] def W84_7 := @C.wpe _ _ K84_7.eq_1
def K84_8 : C := .seq (.pl <| .st (.ext 6 1) <|
    .st (.act none (.px (some 6) (.bin .lss (.v 5) (.v 4)))) .done) K84_7
@[simp] def W84_8 := @C.wpe _ _ K84_8.eq_1
def K84_9 : C := .block 0 (.loop 6 [2, 3] K84_8)
@[simp] def W84_9 := @C.wpe _ _ K84_9.eq_1
def K84_10 : C := .seq (.seq (.pl <| .st (.ext 6 1) <|
    .st (.act none (.px (some 6) (.mv (.v 0)))) <|
    .st (.act none (.px (some 4) (.lenV (.v 6)))) <|
    .st (.act none (.px (some 5) (.mv (.c (.int .i64 0))))) .done) K84_9) K84_1
@[simp] def W84_10 := @C.wpe _ _ K84_10.eq_1
def B_slices_IndexFunc_S_impl_State_impl_State : C := .seq (.pl <| .st (.ext 6 0) <|
    .st (.act none (.px (some 2) (.mv (.c (.int .i64 0))))) .done) K84_10
@[simp] def WB_slices_IndexFunc_S_impl_State_impl_State := @C.wpe _ _ B_slices_IndexFunc_S_impl_State_impl_State.eq_1
def R_slices_IndexFunc_S_impl_State_impl_State : FIR := ⟨B_slices_IndexFunc_S_impl_State_impl_State, 6, [(2, none)]⟩
theorem IR_slices_IndexFunc_S_impl_State_impl_State : cfun Tryz.prog H_slices_IndexFunc_S_impl_State_impl_State Tryz.f84 = some R_slices_IndexFunc_S_impl_State_impl_State := by kernel_rfl
theorem EN_slices_IndexFunc_S_impl_State_impl_State {args : List Value} {h : Heap} {k : Value → Heap → Prop} (hargs : args.length = 2) (hw : B_slices_IndexFunc_S_impl_State_impl_State.wp Tryz.prog (retQ [(2, none)] k) (env0 args 6) h) : CallE Tryz.prog fn_slices_IndexFunc_S_impl_State_impl_State args h k := enter Tryz.func84 rfl IR_slices_IndexFunc_S_impl_State_impl_State hargs hw

def H_slices_IndexFunc_S_int_int : Hint := ⟨[(0, false), (1, false), (4, false), (5, false), (7, false), (8, false)], [[2, 3]]⟩
def K125_1 : C := .seq (.pl <| .st (.ext 6 0) <|
    .st (.act none (.px (some 2) (.mv (.c (.int .i64 (-1)))))) .done) (.ret)
@[simp] def W125_1 := @C.wpe _ _ K125_1.eq_1
def K125_2 : C := .pl <| .st (.ext 6 1) <|
    .st (.act none (.px (some 6) (.bin .add (.v 5) (.c (.int .i64 1))))) <|
    .st (.act none (.px (some 5) (.mv (.v 6)))) .done
@[simp] def W125_2 := @C.wpe _ _ K125_2.eq_1
def K125_3 : C := .seq (.pl <| .st (.ext 6 1) <|
    .st (.act none (.px (some 6) (.mv (.v 3)))) <|
    .st (.act none (.px (some 2) (.mv (.v 6)))) .done) (.ret)
@[simp] def W125_3 := @C.wpe _ _ K125_3.eq_1
def K125_4 : C := .cond 6 (.v 11) K125_3 (.skip)
@[simp] def W125_4 := @C.wpe _ _ K125_4.eq_1
def K125_5 : C := .seq (.pl <| .st (.ext 6 6) <|
    .st (.act none (.px (some 6) (.mv (.v 1)))) <|
    .st (.act none (.px (some 7) (.mv (.v 0)))) <|
    .st (.act none (.px (some 8) (.mv (.v 3)))) <|
    .st (.act none (.px (some 9) (.ia 1 (.v 7) (.v 8)))) <|
    .st (.act none (.ld (some 10) (.v 9) none)) <|
    .st (.act none (.ex (some 11) (.callv (.v 6) [.v 10]))) .done) K125_4
@[simp] def W125_5 := @C.wpe _ _ K125_5.eq_1
def K125_6 : C := .seq (.block 1 (.seq (.pl <| .st (.ext 6 1) <|
    .st (.act none (.px (some 6) (.mv (.v 5)))) <|
    .st (.act none (.px (some 3) (.mv (.v 6)))) .done) K125_5)) K125_2
@[simp] def W125_6 := @C.wpe _ _ K125_6.eq_1
def K125_7 : C := .seq (.cond 6 (.v 6) (.skip) (.exit 0)) K125_6
@[simp] def W125_7 := @C.wpe _ _ K125_7.eq_1
def K125_8 : C := .seq (.pl <| .st (.ext 6 1) <|
    .st (.act none (.px (some 6) (.bin .lss (.v 5) (.v 4)))) .done) K125_7
@[simp] def W125_8 := @C.wpe _ _ K125_8.eq_1
def K125_9 : C := .block 0 (.loop 6 [2, 3] K125_8)
@[simp] def W125_9 := @C.wpe _ _ K125_9.eq_1
def K125_10 : C := .seq (.seq (.pl <| .st (.ext 6 1) <|
    .st (.act none (.px (some 6) (.mv (.v 0)))) <|
    .st (.act none (.px (some 4) (.lenV (.v 6)))) <|
    .st (.act none (.px (some 5) (.mv (.c (.int .i64 0))))) .done) K125_9) K125_1
@[simp] def W125_10 := @C.wpe _ _ K125_10.eq_1
def B_slices_IndexFunc_S_int_int : C := .seq (.pl <| .st (.ext 6 0) <|
    .st (.act none (.px (some 2) (.mv (.c (.int .i64 0))))) .done) K125_10
@[simp] def WB_slices_IndexFunc_S_int_int := @C.wpe _ _ B_slices_IndexFunc_S_int_int.eq_1
def R_slices_IndexFunc_S_int_int : FIR := ⟨B_slices_IndexFunc_S_int_int, 6, [(2, none)]⟩
theorem IR_slices_IndexFunc_S_int_int : cfun Tryz.prog H_slices_IndexFunc_S_int_int Tryz.f125 = some R_slices_IndexFunc_S_int_int := by kernel_rfl
theorem EN_slices_IndexFunc_S_int_int {args : List Value} {h : Heap} {k : Value → Heap → Prop} (hargs : args.length = 2) (hw : B_slices_IndexFunc_S_int_int.wp Tryz.prog (retQ [(2, none)] k) (env0 args 6) h) : CallE Tryz.prog fn_slices_IndexFunc_S_int_int args h k := enter Tryz.func125 rfl IR_slices_IndexFunc_S_int_int hargs hw

def H_slices_Index_S_int_int : Hint := ⟨[(0, false), (1, false), (4, false), (5, false), (7, false), (8, false)], [[2, 3]]⟩
def K116_1 : C := .seq (.pl <| .st (.ext 6 0) <|
    .st (.act none (.px (some 2) (.mv (.c (.int .i64 (-1)))))) .done) (.ret)
@[simp] def W116_1 := @C.wpe _ _ K116_1.eq_1
def K116_2 : C := .pl <| .st (.ext 6 1) <|
    .st (.act none (.px (some 6) (.bin .add (.v 5) (.c (.int .i64 1))))) <|
    .st (.act none (.px (some 5) (.mv (.v 6)))) .done
@[simp] def W116_2 := @C.wpe _ _ K116_2.eq_1
def K116_3 : C := .seq (.pl <| .st (.ext 6 1) <|
    .st (.act none (.px (some 6) (.mv (.v 3)))) <|
    .st (.act none (.px (some 2) (.mv (.v 6)))) .done) (.ret)
@[simp] def W116_3 := @C.wpe _ _ K116_3.eq_1
def K116_4 : C := .cond 6 (.v 11) K116_3 (.skip)
@[simp] def W116_4 := @C.wpe _ _ K116_4.eq_1
def K116_5 : C := .seq (.pl <| .st (.ext 6 6) <|
    .st (.act none (.px (some 6) (.mv (.v 1)))) <|
    .st (.act none (.px (some 7) (.mv (.v 0)))) <|
    .st (.act none (.px (some 8) (.mv (.v 3)))) <|
    .st (.act none (.px (some 9) (.ia 1 (.v 7) (.v 8)))) <|
    .st (.act none (.ld (some 10) (.v 9) none)) <|
    .st (.act none (.px (some 11) (.bin .eql (.v 6) (.v 10)))) .done) K116_4
@[simp] def W116_5 := @C.wpe _ _ K116_5.eq_1
def K116_6 : C := .seq (.block 1 (.seq (.pl <| .st (.ext 6 1) <|
    .st (.act none (.px (some 6) (.mv (.v 5)))) <|
    .st (.act none (.px (some 3) (.mv (.v 6)))) .done) K116_5)) K116_2
@[simp] def W116_6 := @C.wpe _ _ K116_6.eq_1
def K116_7 : C := .seq (.cond 6 (.v 6) (.skip) (.exit 0)) K116_6
@[simp] def W116_7 := @C.wpe _ _ K116_7.eq_1
def K116_8 : C := .seq (.pl <| .st (.ext 6 1) <|
    .st (.act none (.px (some 6) (.bin .lss (.v 5) (.v 4)))) .done) K116_7
@[simp] def W116_8 := @C.wpe _ _ K116_8.eq_1
def K116_9 : C := .block 0 (.loop 6 [2, 3] K116_8)
@[simp] def W116_9 := @C.wpe _ _ K116_9.eq_1
def K116_10 : C := .seq (.seq (.pl <| .st (.ext 6 1) <|
    .st (.act none (.px (some 6) (.mv (.v 0)))) <|
    .st (.act none (.px (some 4) (.lenV (.v 6)))) <|
    .st (.act none (.px (some 5) (.mv (.c (.int .i64 0))))) .done) K116_9) K116_1
@[simp] def W116_10 := @C.wpe _ _ K116_10.eq_1
def B_slices_Index_S_int_int : C := .seq (.pl <| .st (.ext 6 0) <|
    .st (.act none (.px (some 2) (.mv (.c (.int .i64 0))))) .done) K116_10
@[simp] def WB_slices_Index_S_int_int := @C.wpe _ _ B_slices_Index_S_int_int.eq_1
def R_slices_Index_S_int_int : FIR := ⟨B_slices_Index_S_int_int, 6, [(2, none)]⟩
theorem IR_slices_Index_S_int_int : cfun Tryz.prog H_slices_Index_S_int_int Tryz.f116 = some R_slices_Index_S_int_int := by kernel_rfl
theorem EN_slices_Index_S_int_int {args : List Value} {h : Heap} {k : Value → Heap → Prop} (hargs : args.length = 2) (hw : B_slices_Index_S_int_int.wp Tryz.prog (retQ [(2, none)] k) (env0 args 6) h) : CallE Tryz.prog fn_slices_Index_S_int_int args h k := enter Tryz.func116 rfl IR_slices_Index_S_int_int hargs hw

def H_spec_BuildGraph : Hint := ⟨[(0, false), (1, true), (2, true), (3, false), (4, true), (5, false), (6, true), (7, false), (8, false), (9, false), (10, false), (11, true), (12, false)], [[0, 3, 4, 5, 8, 9, 10, 11, 12], [0, 3, 4, 5, 11, 12]]⟩
def K16_1 : C := .seq (.pl <| .st (.ext 13 1) <|
    .st (.act none (.pget (some 13) none 6 0 (some 2))) <|
    .st (.act none (.pset none 2 0 2 (.v 13))) <|
    .st (.act none (.px (some 3) (.mv (.c (.bool true))))) .done) (.ret)
@[simp] def W16_1 := @C.wpe _ _ K16_1.eq_1
def K16_2 : C := .pl <| .st (.ext 13 2) <|
    .st (.act none (.px (some 13) (.mv (.v 7)))) <|
    .st (.act none (.px (some 14) (.bin .add (.v 13) (.c (.int .i64 1))))) <|
    .st (.act none (.px (some 7) (.mv (.v 14)))) .done
@[simp] def W16_2 := @C.wpe _ _ K16_2.eq_1
def K16_3 : Pl := .st (.act none (.als 18 none 6)) <|
    .st (.act none (.pset (some 18) 6 1 1 (.v 17))) .done
@[simp] def W16_3 := @Pl.wpe _ _ K16_3.eq_1
def K16_4 : C := .pl <| .st (.ext 13 6) <|
    .st (.act none (.als 13 none 6)) <|
    .st (.act none (.pget (some 14) (some 13) 6 1 none)) <|
    .st (.act none (.px (some 15) (.mv (.v 9)))) <|
    .st (.act none (.psl 16 [.slice none 0 0] [(0, 1, .v 15)])) <|
    .st (.act none (.ex (some 17) (.app 24 1 [.slice none 0 0] (.o (.v 14)) (.p 1 16)))) K16_3
@[simp] def W16_4 := @C.wpe _ _ K16_4.eq_1
def K16_5 : Pl := .st (.act none (.px (some 9) (.mv (.v 16)))) .done
@[simp] def W16_5 := @Pl.wpe _ _ K16_5.eq_1
def K16_6 : C := .pl <| .st (.ext 13 4) <|
    .st (.act none (.px (some 13) (.mv (.v 9)))) <|
    .st (.act none (.px (some 14) (.mv (.v 7)))) <|
    .st (.act none (.psl 15 [.int .i64 0] [(0, 1, .v 14)])) <|
    .st (.act none (.ex (some 16) (.app 8 1 [.int .i64 0] (.o (.v 13)) (.p 1 15)))) K16_5
@[simp] def W16_6 := @C.wpe _ _ K16_6.eq_1
def K16_7 : C := .cond 13 (.v 15) K16_6 (.skip)
@[simp] def W16_7 := @C.wpe _ _ K16_7.eq_1
def K16_8 : C := .seq (.seq (.pl <| .st (.ext 13 3) <|
    .st (.act none (.px (some 13) (.mv (.v 8)))) <|
    .st (.act none (.px (some 14) (.lenV (.v 13)))) <|
    .st (.act none (.px (some 15) (.bin .eql (.v 14) (.c (.int .i64 0))))) .done) K16_7) K16_4
@[simp] def W16_8 := @C.wpe _ _ K16_8.eq_1
def K16_9 : C := .pl <| .st (.ext 13 2) <|
    .st (.act none (.px (some 13) (.mv (.v 10)))) <|
    .st (.act none (.px (some 14) (.bin .add (.v 13) (.c (.int .i64 1))))) <|
    .st (.act none (.px (some 10) (.mv (.v 14)))) .done
@[simp] def W16_9 := @C.wpe _ _ K16_9.eq_1
def K16_10 : Pl := .st (.act none (.px (some 9) (.mv (.v 16)))) .done
@[simp] def W16_10 := @Pl.wpe _ _ K16_10.eq_1
def K16_11 : C := .pl <| .st (.ext 13 4) <|
    .st (.act none (.px (some 13) (.mv (.v 9)))) <|
    .st (.act none (.px (some 14) (.mv (.v 12)))) <|
    .st (.act none (.psl 15 [.int .i64 0] [(0, 1, .v 14)])) <|
    .st (.act none (.ex (some 16) (.app 8 1 [.int .i64 0] (.o (.v 13)) (.p 1 15)))) K16_10
@[simp] def W16_11 := @C.wpe _ _ K16_11.eq_1
def K16_12 : C := .cond 13 (.v 16) K16_11 (.skip)
@[simp] def W16_12 := @C.wpe _ _ K16_12.eq_1
def K16_13 : Pl := .st (.act none (.px (some 16) (.un .not (.v 15)))) .done
@[simp] def W16_13 := @Pl.wpe _ _ K16_13.eq_1
def K16_14 : C := .seq (.pl <| .st (.ext 13 4) <|
    .st (.act none (.px (some 13) (.mv (.v 9)))) <|
    .st (.act none (.px (some 14) (.mv (.v 12)))) <|
    .st (.act none (.ex (some 15) (.call fn_spec_l4In [.v 13, .v 14]))) K16_13) K16_12
@[simp] def W16_14 := @C.wpe _ _ K16_14.eq_1
def K16_15 : C := .seq (.pl <| .st (.ext 13 1) <|
    .st (.act none (.px (some 13) (.build [.slice none 0 0, .slice none 0 0] []))) <|
    .st (.act none (.pset none 2 0 2 (.v 13))) <|
    .st (.act none (.px (some 3) (.mv (.c (.bool false))))) .done) (.ret)
@[simp] def W16_15 := @C.wpe _ _ K16_15.eq_1
def K16_16 : C := .cond 13 (.v 14) K16_15 (.skip)
@[simp] def W16_16 := @C.wpe _ _ K16_16.eq_1
def K16_17 : C := .seq (.seq (.pl <| .st (.ext 13 2) <|
    .st (.act none (.px (some 13) (.mv (.v 12)))) <|
    .st (.act none (.px (some 14) (.bin .geq (.v 13) (.c (.int .i64 60))))) .done) K16_16) K16_14
@[simp] def W16_17 := @C.wpe _ _ K16_17.eq_1
def K16_18 : Pl := .st (.act none (.als 18 none 6)) <|
    .st (.act none (.pset (some 18) 6 0 1 (.v 17))) .done
@[simp] def W16_18 := @Pl.wpe _ _ K16_18.eq_1
def K16_19 : C := .pl <| .st (.ext 13 6) <|
    .st (.act none (.als 13 none 6)) <|
    .st (.act none (.pget (some 14) (some 13) 6 0 none)) <|
    .st (.act none (.pget (some 15) none 11 0 (some 2))) <|
    .st (.act none (.psl 16 [.slice none 0 0, .slice none 0 0] [(0, 2, .v 15)])) <|
    .st (.act none (.ex (some 17) (.app 48 2 [.slice none 0 0, .slice none 0 0] (.o (.v 14)) (.p 1 16)))) K16_18
@[simp] def W16_19 := @C.wpe _ _ K16_19.eq_1
def K16_20 : C := .seq (.pl <| .st (.ext 13 3) <|
    .st (.act none (.als 13 none 6)) <|
    .st (.act none (.pget (some 14) (some 13) 6 0 none)) <|
    .st (.act none (.px (some 15) (.lenV (.v 14)))) <|
    .st (.act none (.px (some 12) (.mv (.v 15)))) .done) K16_19
@[simp] def W16_20 := @C.wpe _ _ K16_20.eq_1
def K16_21 : C := .cond 13 (.v 14) K16_20 (.skip)
@[simp] def W16_21 := @C.wpe _ _ K16_21.eq_1
def K16_22 : C := .seq (.seq (.pl <| .st (.ext 13 2) <|
    .st (.act none (.px (some 13) (.mv (.v 12)))) <|
    .st (.act none (.px (some 14) (.bin .lss (.v 13) (.c (.int .i64 0))))) .done) K16_21) K16_17
@[simp] def W16_22 := @C.wpe _ _ K16_22.eq_1
def K16_23 : Pl := .st (.act none (.px (some 12) (.mv (.v 16)))) .done
@[simp] def W16_23 := @Pl.wpe _ _ K16_23.eq_1
def K16_24 : C := .seq (.pl <| .st (.ext 13 4) <|
    .st (.act none (.als 13 none 6)) <|
    .st (.act none (.pget (some 14) (some 13) 6 0 none)) <|
    .st (.act none (.pget (some 15) none 11 0 (some 2))) <|
    .st (.act none (.ex (some 16) (.call fn_spec_l4Find [.v 14, .v 15]))) K16_23) K16_22
@[simp] def W16_24 := @C.wpe _ _ K16_24.eq_1
def K16_25 : Pl := .st (.act none (.pset none 11 0 2 (.v 23))) .done
@[simp] def W16_25 := @Pl.wpe _ _ K16_25.eq_1
def K16_26 : C := .seq (.block 3 (.seq (.pl <| .st (.ext 13 11) <|
    .st (.act none (.pget (some 13) none 1 0 (some 2))) <|
    .st (.act none (.als 14 none 6)) <|
    .st (.act none (.pget (some 15) (some 14) 6 0 none)) <|
    .st (.act none (.px (some 16) (.mv (.v 7)))) <|
    .st (.act none (.px (some 17) (.ia 2 (.v 15) (.v 16)))) <|
    .st (.act none (.ld (some 18) (.v 17) (some 2))) <|
    .st (.act none (.px (some 19) (.mv (.v 8)))) <|
    .st (.act none (.px (some 20) (.mv (.v 10)))) <|
    .st (.act none (.px (some 21) (.ia 4 (.v 19) (.v 20)))) <|
    .st (.act none (.ld (some 22) (.v 21) (some 4))) <|
    .st (.act none (.pnew 11 (.c (.agg #[.slice none 0 0, .slice none 0 0])) [])) <|
    .st (.act none (.ex (some 23) (.call fn_spec_l3Apply [.v 13, .v 18, .v 22]))) K16_25) K16_24)) K16_9
@[simp] def W16_26 := @C.wpe _ _ K16_26.eq_1
def K16_27 : C := .cond 13 (.v 16) (.skip) (.exit 2)
@[simp] def W16_27 := @C.wpe _ _ K16_27.eq_1
def K16_28 : C := .seq (.seq (.pl <| .st (.ext 13 4) <|
    .st (.act none (.px (some 13) (.mv (.v 10)))) <|
    .st (.act none (.px (some 14) (.mv (.v 8)))) <|
    .st (.act none (.px (some 15) (.lenV (.v 14)))) <|
    .st (.act none (.px (some 16) (.bin .lss (.v 13) (.v 15)))) .done) K16_27) K16_26
@[simp] def W16_28 := @C.wpe _ _ K16_28.eq_1
def K16_29 : C := .block 2 (.loop 13 [0, 3, 4, 5, 11, 12] K16_28)
@[simp] def W16_29 := @C.wpe _ _ K16_29.eq_1
def K16_30 : C := .seq (.seq (.pl <| .st (.ext 13 0) <|
    .st (.act none (.px (some 10) (.mv (.c (.int .i64 0))))) .done) K16_29) K16_8
@[simp] def W16_30 := @C.wpe _ _ K16_30.eq_1
def K16_31 : Pl := .st (.act none (.px (some 9) (.mv (.v 13)))) .done
@[simp] def W16_31 := @Pl.wpe _ _ K16_31.eq_1
def K16_32 : C := .seq (.pl <| .st (.ext 13 1) <|
    .st (.act none (.ex (some 13) (.bls 1 0 [.int .i64 0] []))) K16_31) K16_30
@[simp] def W16_32 := @C.wpe _ _ K16_32.eq_1
def K16_33 : Pl := .st (.act none (.px (some 8) (.mv (.v 19)))) .done
@[simp] def W16_33 := @Pl.wpe _ _ K16_33.eq_1
def K16_34 : C := .seq (.block 1 (.seq (.pl <| .st (.ext 13 7) <|
    .st (.act none (.pget (some 13) none 1 0 (some 2))) <|
    .st (.act none (.als 14 none 6)) <|
    .st (.act none (.pget (some 15) (some 14) 6 0 none)) <|
    .st (.act none (.px (some 16) (.mv (.v 7)))) <|
    .st (.act none (.px (some 17) (.ia 2 (.v 15) (.v 16)))) <|
    .st (.act none (.ld (some 18) (.v 17) (some 2))) <|
    .st (.act none (.ex (some 19) (.call fn_spec_l3Steps [.v 13, .v 18]))) K16_33) K16_32)) K16_2
@[simp] def W16_34 := @C.wpe _ _ K16_34.eq_1
def K16_35 : C := .cond 13 (.v 17) (.skip) (.exit 0)
@[simp] def W16_35 := @C.wpe _ _ K16_35.eq_1
def K16_36 : C := .seq (.seq (.pl <| .st (.ext 13 5) <|
    .st (.act none (.px (some 13) (.mv (.v 7)))) <|
    .st (.act none (.als 14 none 6)) <|
    .st (.act none (.pget (some 15) (some 14) 6 0 none)) <|
    .st (.act none (.px (some 16) (.lenV (.v 15)))) <|
    .st (.act none (.px (some 17) (.bin .lss (.v 13) (.v 16)))) .done) K16_35) K16_34
@[simp] def W16_36 := @C.wpe _ _ K16_36.eq_1
def K16_37 : C := .block 0 (.loop 13 [0, 3, 4, 5, 8, 9, 10, 11, 12] K16_36)
@[simp] def W16_37 := @C.wpe _ _ K16_37.eq_1
def K16_38 : C := .seq (.seq (.pl <| .st (.ext 13 0) <|
    .st (.act none (.px (some 7) (.mv (.c (.int .i64 0))))) .done) K16_37) K16_1
@[simp] def W16_38 := @C.wpe _ _ K16_38.eq_1
def K16_39 : Pl := .st (.act none (.px (some 15) (.build [.slice none 0 0, .slice none 0 0] [(0, 1, .v 14)]))) <|
    .st (.act none (.pnew 6 (.c (.agg #[.slice none 0 0, .slice none 0 0])) [])) <|
    .st (.act none (.pset none 6 0 2 (.v 15))) .done
@[simp] def W16_39 := @Pl.wpe _ _ K16_39.eq_1
def K16_40 : C := .seq (.pl <| .st (.ext 13 3) <|
    .st (.act none (.pget (some 13) none 4 0 (some 2))) <|
    .st (.act none (.ex (some 14) (.bls 2 1 [.slice none 0 0, .slice none 0 0] [(0, 2, .v 13)]))) K16_39) K16_38
@[simp] def W16_40 := @C.wpe _ _ K16_40.eq_1
def K16_41 : C := .seq (.pl <| .st (.ext 13 1) <|
    .st (.act none (.px (some 13) (.build [.slice none 0 0, .slice none 0 0] []))) <|
    .st (.act none (.pset none 2 0 2 (.v 13))) <|
    .st (.act none (.px (some 3) (.mv (.c (.bool false))))) .done) (.ret)
@[simp] def W16_41 := @C.wpe _ _ K16_41.eq_1
def K16_42 : C := .cond 13 (.v 14) K16_41 (.skip)
@[simp] def W16_42 := @C.wpe _ _ K16_42.eq_1
def K16_43 : C := .seq (.seq (.pl <| .st (.ext 13 2) <|
    .st (.act none (.px (some 13) (.mv (.v 5)))) <|
    .st (.act none (.px (some 14) (.un .not (.v 13)))) .done) K16_42) K16_40
@[simp] def W16_43 := @C.wpe _ _ K16_43.eq_1
def K16_44 : Pl := .st (.act none (.px (some 15) (.mv (.v 14)))) <|
    .st (.act none (.px (some 16) (.extract 0 (.v 15)))) <|
    .st (.act none (.px (some 17) (.extract 1 (.v 15)))) <|
    .st (.act none (.pnew 4 (.c (.agg #[.slice none 0 0, .slice none 0 0])) [])) <|
    .st (.act none (.pset none 4 0 2 (.v 16))) <|
    .st (.act none (.px (some 5) (.mv (.v 17)))) .done
@[simp] def W16_44 := @Pl.wpe _ _ K16_44.eq_1
def K16_45 : C := .seq (.pl <| .st (.ext 13 5) <|
    .st (.act none (.pget (some 13) none 1 0 (some 2))) <|
    .st (.act none (.ex (some 14) (.call fn_spec_InitialState [.v 13]))) K16_44) K16_43
@[simp] def W16_45 := @C.wpe _ _ K16_45.eq_1
def B_spec_BuildGraph : C := .seq (.pl <| .st (.ext 13 0) <|
    .st (.act none (.pnew 1 (.v 0) [])) <|
    .st (.act none (.pnew 2 (.c (.agg #[.slice none 0 0, .slice none 0 0])) [])) <|
    .st (.act none (.px (some 3) (.mv (.c (.bool false))))) .done) K16_45
@[simp] def WB_spec_BuildGraph := @C.wpe _ _ B_spec_BuildGraph.eq_1
def R_spec_BuildGraph : FIR := ⟨B_spec_BuildGraph, 13, [(2, some (some 2)), (3, none)]⟩
theorem IR_spec_BuildGraph : cfun Tryz.prog H_spec_BuildGraph Tryz.f16 = some R_spec_BuildGraph := by kernel_rfl
theorem EN_spec_BuildGraph {args : List Value} {h : Heap} {k : Value → Heap → Prop} (hargs : args.length = 1) (hw : B_spec_BuildGraph.wp Tryz.prog (retQ [(2, some (some 2)), (3, none)] k) (env0 args 13) h) : CallE Tryz.prog fn_spec_BuildGraph args h k := enter Tryz.func16 rfl IR_spec_BuildGraph hargs hw

def H_spec_EdgeValid : Hint := ⟨[(0, false), (1, false), (2, true), (4, false)], []⟩
def K117_1 : Pl := .st (.act (some (.v 12, false)) (.px (some 20) (.pick (.v 16) (.v 19) (.c (.bool false))))) <|
    .st (.act none (.px (some 21) (.pick (.v 12) (.c (.bool true)) (.v 20)))) <|
    .st (.act none (.px (some 3) (.mv (.v 21)))) .done
@[simp] def W117_1 := @Pl.wpe _ _ K117_1.eq_1
def K117_2 : Pl := .st (.act none (.px (some 11) (.pick (.v 7) (.v 10) (.c (.bool false))))) <|
    .st (.act none (.px (some 12) (.mv (.v 11)))) <|
    .st (.act (some (.v 12, false)) (.als 13 none 2)) <|
    .st (.act (some (.v 12, false)) (.pget (some 14) (some 13) 2 5 none)) <|
    .st (.act (some (.v 12, false)) (.px (some 15) (.bin .geq (.v 14) (.c (.int .i64 0))))) <|
    .st (.act (some (.v 12, false)) (.px (some 16) (.mv (.v 15)))) <|
    .st (.act (some (.v 16, true)) (.als 17 none 2)) <|
    .st (.act (some (.v 16, true)) (.pget (some 18) (some 17) 2 6 (some 3))) <|
    .st (.act (some (.v 16, true)) (.ex (some 19) (.call fn_spec_ExprValid [.v 18]))) K117_1
@[simp] def W117_2 := @Pl.wpe _ _ K117_2.eq_1
def K117_3 : C := .seq (.pl <| .st (.ext 4 18) <|
    .st (.act none (.als 4 none 2)) <|
    .st (.act none (.pget (some 5) (some 4) 2 5 none)) <|
    .st (.act none (.px (some 6) (.bin .lss (.v 5) (.c (.int .i64 0))))) <|
    .st (.act none (.px (some 7) (.mv (.v 6)))) <|
    .st (.act (some (.v 7, true)) (.als 8 none 2)) <|
    .st (.act (some (.v 7, true)) (.pget (some 9) (some 8) 2 6 (some 3))) <|
    .st (.act (some (.v 7, true)) (.ex (some 10) (.call fn_spec_l2None [.v 9]))) K117_2) (.ret)
@[simp] def W117_3 := @C.wpe _ _ K117_3.eq_1
def K117_4 : C := .seq (.pl <| .st (.ext 4 0) <|
    .st (.act none (.px (some 3) (.mv (.c (.bool false))))) .done) (.ret)
@[simp] def W117_4 := @C.wpe _ _ K117_4.eq_1
def K117_5 : C := .cond 4 (.v 21) K117_4 (.skip)
@[simp] def W117_5 := @C.wpe _ _ K117_5.eq_1
def K117_6 : C := .seq (.seq (.pl <| .st (.ext 4 18) <|
    .st (.act none (.als 4 none 2)) <|
    .st (.act none (.pget (some 5) (some 4) 2 9 none)) <|
    .st (.act none (.px (some 6) (.bin .lss (.v 5) (.c (.int .i64 (-2)))))) <|
    .st (.act none (.px (some 7) (.mv (.v 6)))) <|
    .st (.act (some (.v 7, false)) (.als 8 none 2)) <|
    .st (.act (some (.v 7, false)) (.pget (some 9) (some 8) 2 9 none)) <|
    .st (.act (some (.v 7, false)) (.px (some 10) (.bin .gtr (.v 9) (.c (.int .i64 2))))) <|
    .st (.act none (.px (some 11) (.pick (.v 7) (.c (.bool true)) (.v 10)))) <|
    .st (.act none (.px (some 12) (.mv (.v 11)))) <|
    .st (.act (some (.v 12, false)) (.als 13 none 2)) <|
    .st (.act (some (.v 12, false)) (.pget (some 14) (some 13) 2 5 none)) <|
    .st (.act (some (.v 12, false)) (.px (some 15) (.bin .lss (.v 14) (.c (.int .i64 (-1)))))) <|
    .st (.act none (.px (some 16) (.pick (.v 12) (.c (.bool true)) (.v 15)))) <|
    .st (.act none (.px (some 17) (.mv (.v 16)))) <|
    .st (.act (some (.v 17, false)) (.als 18 none 2)) <|
    .st (.act (some (.v 17, false)) (.pget (some 19) (some 18) 2 5 none)) <|
    .st (.act (some (.v 17, false)) (.px (some 20) (.bin .geq (.v 19) (.c (.int .i64 3))))) <|
    .st (.act none (.px (some 21) (.pick (.v 17) (.c (.bool true)) (.v 20)))) .done) K117_5) K117_3
@[simp] def W117_6 := @C.wpe _ _ K117_6.eq_1
def K117_7 : C := .seq (.pl <| .st (.ext 4 0) <|
    .st (.act none (.px (some 3) (.mv (.c (.bool false))))) .done) (.ret)
@[simp] def W117_7 := @C.wpe _ _ K117_7.eq_1
def K117_8 : C := .cond 4 (.v 33) K117_7 (.skip)
@[simp] def W117_8 := @C.wpe _ _ K117_8.eq_1
def K117_9 : Pl := .st (.act (some (.v 28, false)) (.px (some 32) (.un .not (.v 31)))) <|
    .st (.act none (.px (some 33) (.pick (.v 28) (.c (.bool true)) (.v 32)))) .done
@[simp] def W117_9 := @Pl.wpe _ _ K117_9.eq_1
def K117_10 : C := .seq (.seq (.pl <| .st (.ext 4 30) <|
    .st (.act none (.als 4 none 2)) <|
    .st (.act none (.pget (some 5) (some 4) 2 0 none)) <|
    .st (.act none (.px (some 6) (.bin .lss (.v 5) (.c (.int .i64 0))))) <|
    .st (.act none (.px (some 7) (.mv (.v 6)))) <|
    .st (.act (some (.v 7, false)) (.als 8 none 2)) <|
    .st (.act (some (.v 7, false)) (.pget (some 9) (some 8) 2 0 none)) <|
    .st (.act (some (.v 7, false)) (.px (some 10) (.mv (.v 1)))) <|
    .st (.act (some (.v 7, false)) (.px (some 11) (.bin .geq (.v 9) (.v 10)))) <|
    .st (.act none (.px (some 12) (.pick (.v 7) (.c (.bool true)) (.v 11)))) <|
    .st (.act none (.px (some 13) (.mv (.v 12)))) <|
    .st (.act (some (.v 13, false)) (.als 14 none 2)) <|
    .st (.act (some (.v 13, false)) (.pget (some 15) (some 14) 2 1 none)) <|
    .st (.act (some (.v 13, false)) (.px (some 16) (.bin .lss (.v 15) (.c (.int .i64 0))))) <|
    .st (.act none (.px (some 17) (.pick (.v 13) (.c (.bool true)) (.v 16)))) <|
    .st (.act none (.px (some 18) (.mv (.v 17)))) <|
    .st (.act (some (.v 18, false)) (.als 19 none 2)) <|
    .st (.act (some (.v 18, false)) (.pget (some 20) (some 19) 2 1 none)) <|
    .st (.act (some (.v 18, false)) (.px (some 21) (.mv (.v 1)))) <|
    .st (.act (some (.v 18, false)) (.px (some 22) (.bin .geq (.v 20) (.v 21)))) <|
    .st (.act none (.px (some 23) (.pick (.v 18) (.c (.bool true)) (.v 22)))) <|
    .st (.act none (.px (some 24) (.mv (.v 23)))) <|
    .st (.act (some (.v 24, false)) (.px (some 25) (.mv (.v 1)))) <|
    .st (.act (some (.v 24, false)) (.px (some 26) (.bin .gtr (.v 25) (.c (.int .i64 4))))) <|
    .st (.act none (.px (some 27) (.pick (.v 24) (.c (.bool true)) (.v 26)))) <|
    .st (.act none (.px (some 28) (.mv (.v 27)))) <|
    .st (.act (some (.v 28, false)) (.als 29 none 2)) <|
    .st (.act (some (.v 28, false)) (.pget (some 30) (some 29) 2 2 (some 3))) <|
    .st (.act (some (.v 28, false)) (.ex (some 31) (.call fn_spec_ExprValid [.v 30]))) K117_9) K117_8) K117_6
@[simp] def W117_10 := @C.wpe _ _ K117_10.eq_1
def B_spec_EdgeValid : C := .seq (.pl <| .st (.ext 4 0) <|
    .st (.act none (.pnew 2 (.v 0) [])) <|
    .st (.act none (.px (some 3) (.mv (.c (.bool false))))) .done) K117_10
@[simp] def WB_spec_EdgeValid := @C.wpe _ _ B_spec_EdgeValid.eq_1
def R_spec_EdgeValid : FIR := ⟨B_spec_EdgeValid, 4, [(3, none)]⟩
theorem IR_spec_EdgeValid : cfun Tryz.prog H_spec_EdgeValid Tryz.f117 = some R_spec_EdgeValid := by kernel_rfl
theorem EN_spec_EdgeValid {args : List Value} {h : Heap} {k : Value → Heap → Prop} (hargs : args.length = 2) (hw : B_spec_EdgeValid.wp Tryz.prog (retQ [(3, none)] k) (env0 args 4) h) : CallE Tryz.prog fn_spec_EdgeValid args h k := enter Tryz.func117 rfl IR_spec_EdgeValid hargs hw

def H_spec_ExprValid : Hint := ⟨[(0, false), (1, true), (2, false)], []⟩
def K54_1 : Pl := .st (.act (some (.v 5, true)) (.px (some 8) (.bin .leq (.v 7) (.c (.int .i64 15))))) <|
    .st (.act none (.px (some 9) (.pick (.v 5) (.v 8) (.c (.bool false))))) <|
    .st (.act none (.px (some 2) (.mv (.v 9)))) .done
@[simp] def W54_1 := @Pl.wpe _ _ K54_1.eq_1
def K54_2 : Pl := .st (.act none (.px (some 5) (.mv (.v 4)))) <|
    .st (.act (some (.v 5, true)) (.pget (some 6) none 1 0 (some 3))) <|
    .st (.act (some (.v 5, true)) (.ex (some 7) (.call fn_spec_l1Count [.v 6, .c (.int .i64 6)]))) K54_1
@[simp] def W54_2 := @Pl.wpe _ _ K54_2.eq_1
def K54_3 : C := .seq (.pl <| .st (.ext 3 7) <|
    .st (.act none (.pget (some 3) none 1 0 (some 3))) <|
    .st (.act none (.ex (some 4) (.call fn_spec_l1Shape [.v 3, .c (.int .i64 6)]))) K54_2) (.ret)
@[simp] def W54_3 := @C.wpe _ _ K54_3.eq_1
def B_spec_ExprValid : C := .seq (.pl <| .st (.ext 3 0) <|
    .st (.act none (.pnew 1 (.v 0) [])) <|
    .st (.act none (.px (some 2) (.mv (.c (.bool false))))) .done) K54_3
@[simp] def WB_spec_ExprValid := @C.wpe _ _ B_spec_ExprValid.eq_1
def R_spec_ExprValid : FIR := ⟨B_spec_ExprValid, 3, [(2, none)]⟩
theorem IR_spec_ExprValid : cfun Tryz.prog H_spec_ExprValid Tryz.f54 = some R_spec_ExprValid := by kernel_rfl
theorem EN_spec_ExprValid {args : List Value} {h : Heap} {k : Value → Heap → Prop} (hargs : args.length = 1) (hw : B_spec_ExprValid.wp Tryz.prog (retQ [(2, none)] k) (env0 args 3) h) : CallE Tryz.prog fn_spec_ExprValid args h k := enter Tryz.func54 rfl IR_spec_ExprValid hargs hw

def H_spec_InitialState : Hint := ⟨[(0, false), (1, true), (2, true), (3, false)], []⟩
def K43_1 : Pl := .st (.act none (.px (some 12) (.build [.slice none 0 0, .slice none 0 0] [(0, 1, .v 7), (1, 1, .v 11)]))) <|
    .st (.act none (.pset none 2 0 2 (.v 12))) <|
    .st (.act none (.px (some 3) (.mv (.c (.bool true))))) .done
@[simp] def W43_1 := @Pl.wpe _ _ K43_1.eq_1
def K43_2 : Pl := .st (.act none (.ex (some 11) (.app 8 1 [.int .i64 0] (.p 0 8) (.o (.v 10))))) K43_1
@[simp] def W43_2 := @Pl.wpe _ _ K43_2.eq_1
def K43_3 : Pl := .st (.act none (.ex (some 7) (.mks 8 1 [.int .i64 0] (.v 6) (.v 6)))) K43_2
@[simp] def W43_3 := @Pl.wpe _ _ K43_3.eq_1
def K43_4 : Pl := .st (.act none (.px (some 12) (.build [.slice none 0 0, .slice none 0 0] [(0, 1, .v 7), (1, 1, .v 11)]))) <|
    .st (.act none (.pset none 2 0 2 (.v 12))) <|
    .st (.act none (.px (some 3) (.mv (.c (.bool true))))) .done
@[simp] def W43_4 := @Pl.wpe _ _ K43_4.eq_1
def K43_5 : Pl := .st (.act none (.ex (some 7) (.mks 8 1 [.int .i64 0] (.v 6) (.v 6)))) K43_4
@[simp] def W43_5 := @Pl.wpe _ _ K43_5.eq_1
def K43_6 : Pl := .st (.act none (.ex (some 11) (.app 8 1 [.int .i64 0] (.p 0 8) (.o (.v 10))))) K43_5
@[simp] def W43_6 := @Pl.wpe _ _ K43_6.eq_1
def K43_7 : C := .seq (.pl <| .st (.ext 4 9) <|
    .st (.act none (.als 4 none 1)) <|
    .st (.act none (.pget (some 5) (some 4) 1 1 none)) <|
    .st (.act none (.px (some 6) (.lenV (.v 5)))) <|
    .st (.act none (.psl 8 [] [])) <|
    .st (.act none (.als 9 none 1)) <|
    .st (.act none (.pget (some 10) (some 9) 1 0 none)) <|
    .both K43_3 K43_6) (.ret)
@[simp] def W43_7 := @C.wpe _ _ K43_7.eq_1
def K43_8 : C := .seq (.pl <| .st (.ext 4 1) <|
    .st (.act none (.px (some 4) (.build [.slice none 0 0, .slice none 0 0] []))) <|
    .st (.act none (.pset none 2 0 2 (.v 4))) <|
    .st (.act none (.px (some 3) (.mv (.c (.bool false))))) .done) (.ret)
@[simp] def W43_8 := @C.wpe _ _ K43_8.eq_1
def K43_9 : C := .cond 4 (.v 6) K43_8 (.skip)
@[simp] def W43_9 := @C.wpe _ _ K43_9.eq_1
def K43_10 : Pl := .st (.act none (.px (some 6) (.un .not (.v 5)))) .done
@[simp] def W43_10 := @Pl.wpe _ _ K43_10.eq_1
def K43_11 : C := .seq (.seq (.pl <| .st (.ext 4 3) <|
    .st (.act none (.pget (some 4) none 1 0 (some 2))) <|
    .st (.act none (.ex (some 5) (.call fn_spec_SystemValid [.v 4]))) K43_10) K43_9) K43_7
@[simp] def W43_11 := @C.wpe _ _ K43_11.eq_1
def B_spec_InitialState : C := .seq (.pl <| .st (.ext 4 0) <|
    .st (.act none (.pnew 1 (.v 0) [])) <|
    .st (.act none (.pnew 2 (.c (.agg #[.slice none 0 0, .slice none 0 0])) [])) <|
    .st (.act none (.px (some 3) (.mv (.c (.bool false))))) .done) K43_11
@[simp] def WB_spec_InitialState := @C.wpe _ _ B_spec_InitialState.eq_1
def R_spec_InitialState : FIR := ⟨B_spec_InitialState, 4, [(2, some (some 2)), (3, none)]⟩
theorem IR_spec_InitialState : cfun Tryz.prog H_spec_InitialState Tryz.f43 = some R_spec_InitialState := by kernel_rfl
theorem EN_spec_InitialState {args : List Value} {h : Heap} {k : Value → Heap → Prop} (hargs : args.length = 1) (hw : B_spec_InitialState.wp Tryz.prog (retQ [(2, some (some 2)), (3, none)] k) (env0 args 4) h) : CallE Tryz.prog fn_spec_InitialState args h k := enter Tryz.func43 rfl IR_spec_InitialState hargs hw

def H_spec_StateSame : Hint := ⟨[(0, false), (1, false), (2, true), (3, true), (4, false)], []⟩
def K77_1 : Pl := .st (.act none (.px (some 16) (.pick (.v 10) (.v 15) (.c (.bool false))))) <|
    .st (.act none (.px (some 4) (.mv (.v 16)))) .done
@[simp] def W77_1 := @Pl.wpe _ _ K77_1.eq_1
def K77_2 : Pl := .st (.act none (.px (some 10) (.mv (.v 9)))) <|
    .st (.act (some (.v 10, true)) (.als 11 none 2)) <|
    .st (.act (some (.v 10, true)) (.pget (some 12) (some 11) 2 1 none)) <|
    .st (.act (some (.v 10, true)) (.als 13 none 3)) <|
    .st (.act (some (.v 10, true)) (.pget (some 14) (some 13) 3 1 none)) <|
    .st (.act (some (.v 10, true)) (.ex (some 15) (.call fn_spec_l2Ints [.v 12, .v 14]))) K77_1
@[simp] def W77_2 := @Pl.wpe _ _ K77_2.eq_1
def K77_3 : C := .seq (.pl <| .st (.ext 5 12) <|
    .st (.act none (.als 5 none 2)) <|
    .st (.act none (.pget (some 6) (some 5) 2 0 none)) <|
    .st (.act none (.als 7 none 3)) <|
    .st (.act none (.pget (some 8) (some 7) 3 0 none)) <|
    .st (.act none (.ex (some 9) (.call fn_spec_l2Ints [.v 6, .v 8]))) K77_2) (.ret)
@[simp] def W77_3 := @C.wpe _ _ K77_3.eq_1
def B_spec_StateSame : C := .seq (.pl <| .st (.ext 5 0) <|
    .st (.act none (.pnew 2 (.v 0) [])) <|
    .st (.act none (.pnew 3 (.v 1) [])) <|
    .st (.act none (.px (some 4) (.mv (.c (.bool false))))) .done) K77_3
@[simp] def WB_spec_StateSame := @C.wpe _ _ B_spec_StateSame.eq_1
def R_spec_StateSame : FIR := ⟨B_spec_StateSame, 5, [(4, none)]⟩
theorem IR_spec_StateSame : cfun Tryz.prog H_spec_StateSame Tryz.f77 = some R_spec_StateSame := by kernel_rfl
theorem EN_spec_StateSame {args : List Value} {h : Heap} {k : Value → Heap → Prop} (hargs : args.length = 2) (hw : B_spec_StateSame.wp Tryz.prog (retQ [(4, none)] k) (env0 args 5) h) : CallE Tryz.prog fn_spec_StateSame args h k := enter Tryz.func77 rfl IR_spec_StateSame hargs hw

def H_spec_SystemValid : Hint := ⟨[(0, false), (1, true), (2, false), (3, false)], [[0, 2]]⟩
def K53_1 : Pl := .st (.act none (.px (some 7) (.mv (.v 6)))) <|
    .st (.act (some (.v 7, true)) (.als 8 none 1)) <|
    .st (.act (some (.v 7, true)) (.pget (some 9) (some 8) 1 1 none)) <|
    .st (.act (some (.v 7, true)) (.px (some 10) (.lenV (.v 9)))) <|
    .st (.act (some (.v 7, true)) (.px (some 11) (.bin .geq (.v 10) (.c (.int .i64 1))))) <|
    .st (.act none (.px (some 12) (.pick (.v 7) (.v 11) (.c (.bool false))))) <|
    .st (.act none (.px (some 13) (.mv (.v 12)))) <|
    .st (.act (some (.v 13, true)) (.als 14 none 1)) <|
    .st (.act (some (.v 13, true)) (.pget (some 15) (some 14) 1 1 none)) <|
    .st (.act (some (.v 13, true)) (.px (some 16) (.lenV (.v 15)))) <|
    .st (.act (some (.v 13, true)) (.px (some 17) (.bin .leq (.v 16) (.c (.int .i64 3))))) <|
    .st (.act none (.px (some 18) (.pick (.v 13) (.v 17) (.c (.bool false))))) <|
    .st (.act none (.px (some 2) (.mv (.v 18)))) .done
@[simp] def W53_1 := @Pl.wpe _ _ K53_1.eq_1
def K53_2 : C := .seq (.pl <| .st (.ext 4 15) <|
    .st (.act none (.als 4 none 1)) <|
    .st (.act none (.pget (some 5) (some 4) 1 0 none)) <|
    .st (.act none (.ex (some 6) (.call fn_spec_l1Vals [.v 5]))) K53_1) (.ret)
@[simp] def W53_2 := @C.wpe _ _ K53_2.eq_1
def K53_3 : C := .pl <| .st (.ext 4 2) <|
    .st (.act none (.px (some 4) (.mv (.v 3)))) <|
    .st (.act none (.px (some 5) (.bin .add (.v 4) (.c (.int .i64 1))))) <|
    .st (.act none (.px (some 3) (.mv (.v 5)))) .done
@[simp] def W53_3 := @C.wpe _ _ K53_3.eq_1
def K53_4 : C := .seq (.pl <| .st (.ext 4 0) <|
    .st (.act none (.px (some 2) (.mv (.c (.bool false))))) .done) (.ret)
@[simp] def W53_4 := @C.wpe _ _ K53_4.eq_1
def K53_5 : C := .cond 4 (.v 10) K53_4 (.skip)
@[simp] def W53_5 := @C.wpe _ _ K53_5.eq_1
def K53_6 : Pl := .st (.act none (.px (some 10) (.un .not (.v 9)))) .done
@[simp] def W53_6 := @Pl.wpe _ _ K53_6.eq_1
def K53_7 : C := .seq (.block 1 (.seq (.pl <| .st (.ext 4 7) <|
    .st (.act none (.als 4 none 1)) <|
    .st (.act none (.pget (some 5) (some 4) 1 1 none)) <|
    .st (.act none (.px (some 6) (.mv (.v 3)))) <|
    .st (.act none (.px (some 7) (.ia 2 (.v 5) (.v 6)))) <|
    .st (.act none (.ld (some 8) (.v 7) (some 2))) <|
    .st (.act none (.ex (some 9) (.call fn_spec_l2Process [.v 8]))) K53_6) K53_5)) K53_3
@[simp] def W53_7 := @C.wpe _ _ K53_7.eq_1
def K53_8 : C := .cond 4 (.v 8) (.skip) (.exit 0)
@[simp] def W53_8 := @C.wpe _ _ K53_8.eq_1
def K53_9 : C := .seq (.seq (.pl <| .st (.ext 4 5) <|
    .st (.act none (.px (some 4) (.mv (.v 3)))) <|
    .st (.act none (.als 5 none 1)) <|
    .st (.act none (.pget (some 6) (some 5) 1 1 none)) <|
    .st (.act none (.px (some 7) (.lenV (.v 6)))) <|
    .st (.act none (.px (some 8) (.bin .lss (.v 4) (.v 7)))) .done) K53_8) K53_7
@[simp] def W53_9 := @C.wpe _ _ K53_9.eq_1
def K53_10 : C := .block 0 (.loop 4 [0, 2] K53_9)
@[simp] def W53_10 := @C.wpe _ _ K53_10.eq_1
def K53_11 : C := .seq (.seq (.pl <| .st (.ext 4 0) <|
    .st (.act none (.px (some 3) (.mv (.c (.int .i64 0))))) .done) K53_10) K53_2
@[simp] def W53_11 := @C.wpe _ _ K53_11.eq_1
def B_spec_SystemValid : C := .seq (.pl <| .st (.ext 4 0) <|
    .st (.act none (.pnew 1 (.v 0) [])) <|
    .st (.act none (.px (some 2) (.mv (.c (.bool false))))) .done) K53_11
@[simp] def WB_spec_SystemValid := @C.wpe _ _ B_spec_SystemValid.eq_1
def R_spec_SystemValid : FIR := ⟨B_spec_SystemValid, 4, [(2, none)]⟩
theorem IR_spec_SystemValid : cfun Tryz.prog H_spec_SystemValid Tryz.f53 = some R_spec_SystemValid := by kernel_rfl
theorem EN_spec_SystemValid {args : List Value} {h : Heap} {k : Value → Heap → Prop} (hargs : args.length = 1) (hw : B_spec_SystemValid.wp Tryz.prog (retQ [(2, none)] k) (env0 args 4) h) : CallE Tryz.prog fn_spec_SystemValid args h k := enter Tryz.func53 rfl IR_spec_SystemValid hargs hw

def H_spec_l1Arity : Hint := ⟨[(0, false), (2, false), (3, false), (4, false)], []⟩
def K118_1 : C := .seq (.pl <| .st (.ext 4 0) <|
    .st (.act none (.px (some 1) (.mv (.c (.int .i64 (-1)))))) .done) (.ret)
@[simp] def W118_1 := @C.wpe _ _ K118_1.eq_1
def K118_2 : C := .seq (.pl <| .st (.ext 4 0) <|
    .st (.act none (.px (some 1) (.mv (.c (.int .i64 2))))) .done) (.ret)
@[simp] def W118_2 := @C.wpe _ _ K118_2.eq_1
def K118_3 : C := .cond 4 (.v 9) K118_2 (.skip)
@[simp] def W118_3 := @C.wpe _ _ K118_3.eq_1
def K118_4 : C := .seq (.seq (.pl <| .st (.ext 4 6) <|
    .st (.act none (.px (some 4) (.mv (.v 0)))) <|
    .st (.act none (.px (some 5) (.bin .geq (.v 4) (.c (.int .i64 4))))) <|
    .st (.act none (.px (some 6) (.mv (.v 5)))) <|
    .st (.act (some (.v 6, true)) (.px (some 7) (.mv (.v 0)))) <|
    .st (.act (some (.v 6, true)) (.px (some 8) (.bin .leq (.v 7) (.c (.int .i64 9))))) <|
    .st (.act none (.px (some 9) (.pick (.v 6) (.v 8) (.c (.bool false))))) .done) K118_3) K118_1
@[simp] def W118_4 := @C.wpe _ _ K118_4.eq_1
def K118_5 : C := .seq (.pl <| .st (.ext 4 0) <|
    .st (.act none (.px (some 1) (.mv (.c (.int .i64 0))))) .done) (.ret)
@[simp] def W118_5 := @C.wpe _ _ K118_5.eq_1
def K118_6 : C := .seq (.pl <| .st (.ext 4 0) <|
    .st (.act none (.px (some 1) (.mv (.c (.int .i64 1))))) .done) (.ret)
@[simp] def W118_6 := @C.wpe _ _ K118_6.eq_1
def K118_7 : C := .cond 4 (.v 5) K118_6 (.skip)
@[simp] def W118_7 := @C.wpe _ _ K118_7.eq_1
def K118_8 : C := .seq (.pl <| .st (.ext 4 2) <|
    .st (.act none (.px (some 4) (.bin .eql (.v 2) (.c (.int .i64 3))))) <|
    .st (.act none (.px (some 5) (.mv (.v 4)))) .done) K118_7
@[simp] def W118_8 := @C.wpe _ _ K118_8.eq_1
def K118_9 : C := .cond 4 (.v 3) K118_5 K118_8
@[simp] def W118_9 := @C.wpe _ _ K118_9.eq_1
def K118_10 : C := .pl <| .st (.ext 4 1) <|
    .st (.act none (.px (some 4) (.bin .eql (.v 2) (.c (.int .i64 2))))) <|
    .st (.act none (.px (some 3) (.mv (.v 4)))) .done
@[simp] def W118_10 := @C.wpe _ _ K118_10.eq_1
def K118_11 : C := .cond 4 (.v 3) (.skip) K118_10
@[simp] def W118_11 := @C.wpe _ _ K118_11.eq_1
def K118_12 : C := .block 0 (.seq (.seq (.pl <| .st (.ext 4 1) <|
    .st (.act none (.px (some 4) (.bin .eql (.v 2) (.c (.int .i64 1))))) <|
    .st (.act none (.px (some 3) (.mv (.v 4)))) .done) K118_11) K118_9)
@[simp] def W118_12 := @C.wpe _ _ K118_12.eq_1
def K118_13 : C := .seq (.seq (.pl <| .st (.ext 4 0) <|
    .st (.act none (.px (some 2) (.mv (.v 0)))) .done) K118_12) K118_4
@[simp] def W118_13 := @C.wpe _ _ K118_13.eq_1
def B_spec_l1Arity : C := .seq (.pl <| .st (.ext 4 0) <|
    .st (.act none (.px (some 1) (.mv (.c (.int .i64 0))))) .done) K118_13
@[simp] def WB_spec_l1Arity := @C.wpe _ _ B_spec_l1Arity.eq_1
def R_spec_l1Arity : FIR := ⟨B_spec_l1Arity, 4, [(1, none)]⟩
theorem IR_spec_l1Arity : cfun Tryz.prog H_spec_l1Arity Tryz.f118 = some R_spec_l1Arity := by kernel_rfl
theorem EN_spec_l1Arity {args : List Value} {h : Heap} {k : Value → Heap → Prop} (hargs : args.length = 1) (hw : B_spec_l1Arity.wp Tryz.prog (retQ [(1, none)] k) (env0 args 4) h) : CallE Tryz.prog fn_spec_l1Arity args h k := enter Tryz.func118 rfl IR_spec_l1Arity hargs hw

def H_spec_l1Bool : Hint := ⟨[(0, false), (2, false)], []⟩
def K95_1 : C := .seq (.pl <| .st (.ext 2 0) <|
    .st (.act none (.px (some 1) (.mv (.c (.int .i64 0))))) .done) (.ret)
@[simp] def W95_1 := @C.wpe _ _ K95_1.eq_1
def K95_2 : C := .seq (.pl <| .st (.ext 2 0) <|
    .st (.act none (.px (some 1) (.mv (.c (.int .i64 1))))) .done) (.ret)
@[simp] def W95_2 := @C.wpe _ _ K95_2.eq_1
def K95_3 : C := .cond 2 (.v 2) K95_2 (.skip)
@[simp] def W95_3 := @C.wpe _ _ K95_3.eq_1
def K95_4 : C := .seq (.seq (.pl <| .st (.ext 2 1) <|
    .st (.act none (.px (some 2) (.mv (.v 0)))) .done) K95_3) K95_1
@[simp] def W95_4 := @C.wpe _ _ K95_4.eq_1
def B_spec_l1Bool : C := .seq (.pl <| .st (.ext 2 0) <|
    .st (.act none (.px (some 1) (.mv (.c (.int .i64 0))))) .done) K95_4
@[simp] def WB_spec_l1Bool := @C.wpe _ _ B_spec_l1Bool.eq_1
def R_spec_l1Bool : FIR := ⟨B_spec_l1Bool, 2, [(1, none)]⟩
theorem IR_spec_l1Bool : cfun Tryz.prog H_spec_l1Bool Tryz.f95 = some R_spec_l1Bool := by kernel_rfl
theorem EN_spec_l1Bool {args : List Value} {h : Heap} {k : Value → Heap → Prop} (hargs : args.length = 1) (hw : B_spec_l1Bool.wp Tryz.prog (retQ [(1, none)] k) (env0 args 2) h) : CallE Tryz.prog fn_spec_l1Bool args h k := enter Tryz.func95 rfl IR_spec_l1Bool hargs hw

def H_spec_l1Count : Hint := ⟨[(0, false), (1, false), (2, true), (4, false), (5, false), (6, false)], [[0, 3]]⟩
def K94_1 : C := .seq (.pl <| .st (.ext 6 1) <|
    .st (.act none (.px (some 6) (.mv (.v 4)))) <|
    .st (.act none (.px (some 3) (.mv (.v 6)))) .done) (.ret)
@[simp] def W94_1 := @C.wpe _ _ K94_1.eq_1
def K94_2 : C := .pl <| .st (.ext 6 2) <|
    .st (.act none (.px (some 6) (.mv (.v 5)))) <|
    .st (.act none (.px (some 7) (.bin .add (.v 6) (.c (.int .i64 1))))) <|
    .st (.act none (.px (some 5) (.mv (.v 7)))) .done
@[simp] def W94_2 := @C.wpe _ _ K94_2.eq_1
def K94_3 : Pl := .st (.act none (.px (some 15) (.bin .add (.v 6) (.v 14)))) <|
    .st (.act none (.px (some 4) (.mv (.v 15)))) .done
@[simp] def W94_3 := @Pl.wpe _ _ K94_3.eq_1
def K94_4 : C := .seq (.block 1 (.pl <| .st (.ext 6 10) <|
    .st (.act none (.px (some 6) (.mv (.v 4)))) <|
    .st (.act none (.als 7 none 2)) <|
    .st (.act none (.pget (some 8) (some 7) 2 2 none)) <|
    .st (.act none (.px (some 9) (.mv (.v 5)))) <|
    .st (.act none (.px (some 10) (.ia 3 (.v 8) (.v 9)))) <|
    .st (.act none (.ld (some 11) (.v 10) (some 3))) <|
    .st (.act none (.px (some 12) (.mv (.v 1)))) <|
    .st (.act none (.px (some 13) (.bin .sub (.v 12) (.c (.int .i64 1))))) <|
    .st (.act none (.ex (some 14) (.call fn_spec_l1Count [.v 11, .v 13]))) K94_3)) K94_2
@[simp] def W94_4 := @C.wpe _ _ K94_4.eq_1
def K94_5 : C := .cond 6 (.v 14) (.skip) (.exit 0)
@[simp] def W94_5 := @C.wpe _ _ K94_5.eq_1
def K94_6 : C := .seq (.seq (.pl <| .st (.ext 6 9) <|
    .st (.act none (.px (some 6) (.mv (.v 5)))) <|
    .st (.act none (.als 7 none 2)) <|
    .st (.act none (.pget (some 8) (some 7) 2 2 none)) <|
    .st (.act none (.px (some 9) (.lenV (.v 8)))) <|
    .st (.act none (.px (some 10) (.bin .lss (.v 6) (.v 9)))) <|
    .st (.act none (.px (some 11) (.mv (.v 10)))) <|
    .st (.act (some (.v 11, true)) (.px (some 12) (.mv (.v 1)))) <|
    .st (.act (some (.v 11, true)) (.px (some 13) (.bin .gtr (.v 12) (.c (.int .i64 0))))) <|
    .st (.act none (.px (some 14) (.pick (.v 11) (.v 13) (.c (.bool false))))) .done) K94_5) K94_4
@[simp] def W94_6 := @C.wpe _ _ K94_6.eq_1
def K94_7 : C := .block 0 (.loop 6 [0, 3] K94_6)
@[simp] def W94_7 := @C.wpe _ _ K94_7.eq_1
def K94_8 : C := .seq (.seq (.pl <| .st (.ext 6 0) <|
    .st (.act none (.px (some 5) (.mv (.c (.int .i64 0))))) .done) K94_7) K94_1
@[simp] def W94_8 := @C.wpe _ _ K94_8.eq_1
def K94_9 : C := .seq (.pl <| .st (.ext 6 0) <|
    .st (.act none (.px (some 4) (.mv (.c (.int .i64 1))))) .done) K94_8
@[simp] def W94_9 := @C.wpe _ _ K94_9.eq_1
def B_spec_l1Count : C := .seq (.pl <| .st (.ext 6 0) <|
    .st (.act none (.pnew 2 (.v 0) [])) <|
    .st (.act none (.px (some 3) (.mv (.c (.int .i64 0))))) .done) K94_9
@[simp] def WB_spec_l1Count := @C.wpe _ _ B_spec_l1Count.eq_1
def R_spec_l1Count : FIR := ⟨B_spec_l1Count, 6, [(3, none)]⟩
theorem IR_spec_l1Count : cfun Tryz.prog H_spec_l1Count Tryz.f94 = some R_spec_l1Count := by kernel_rfl
theorem EN_spec_l1Count {args : List Value} {h : Heap} {k : Value → Heap → Prop} (hargs : args.length = 2) (hw : B_spec_l1Count.wp Tryz.prog (retQ [(3, none)] k) (env0 args 6) h) : CallE Tryz.prog fn_spec_l1Count args h k := enter Tryz.func94 rfl IR_spec_l1Count hargs hw

def H_spec_l1Eval : Hint := ⟨[(0, false), (1, false), (2, true), (4, false), (5, false), (6, false), (8, false), (43, false)], []⟩
def K55_1 : C := .seq (.pl <| .st (.ext 8 6) <|
    .st (.act none (.px (some 8) (.mv (.v 4)))) <|
    .st (.act none (.px (some 9) (.mv (.v 5)))) <|
    .st (.act none (.px (some 10) (.bin .sub (.v 8) (.v 9)))) <|
    .st (.act none (.px (some 11) (.bin .add (.v 10) (.c (.int .i64 3))))) <|
    .st (.act none (.px (some 12) (.bin .add (.v 11) (.c (.int .i64 1))))) <|
    .st (.act none (.px (some 13) (.bin .rem (.v 12) (.c (.int .i64 4))))) <|
    .st (.act none (.px (some 3) (.mv (.v 13)))) .done) (.ret)
@[simp] def W55_1 := @C.wpe _ _ K55_1.eq_1
def K55_2 : Pl := .st (.act none (.px (some 3) (.mv (.v 14)))) .done
@[simp] def W55_2 := @Pl.wpe _ _ K55_2.eq_1
def K55_3 : C := .seq (.pl <| .st (.ext 8 7) <|
    .st (.act none (.px (some 8) (.mv (.v 4)))) <|
    .st (.act none (.px (some 9) (.bin .neq (.v 8) (.c (.int .i64 0))))) <|
    .st (.act none (.px (some 10) (.mv (.v 9)))) <|
    .st (.act (some (.v 10, true)) (.px (some 11) (.mv (.v 5)))) <|
    .st (.act (some (.v 10, true)) (.px (some 12) (.bin .neq (.v 11) (.c (.int .i64 0))))) <|
    .st (.act none (.px (some 13) (.pick (.v 10) (.v 12) (.c (.bool false))))) <|
    .st (.act none (.ex (some 14) (.call fn_spec_l1Bool [.v 13]))) K55_2) (.ret)
@[simp] def W55_3 := @C.wpe _ _ K55_3.eq_1
def K55_4 : Pl := .st (.act none (.px (some 3) (.mv (.v 14)))) .done
@[simp] def W55_4 := @Pl.wpe _ _ K55_4.eq_1
def K55_5 : C := .seq (.pl <| .st (.ext 8 7) <|
    .st (.act none (.px (some 8) (.mv (.v 4)))) <|
    .st (.act none (.px (some 9) (.bin .neq (.v 8) (.c (.int .i64 0))))) <|
    .st (.act none (.px (some 10) (.mv (.v 9)))) <|
    .st (.act (some (.v 10, false)) (.px (some 11) (.mv (.v 5)))) <|
    .st (.act (some (.v 10, false)) (.px (some 12) (.bin .neq (.v 11) (.c (.int .i64 0))))) <|
    .st (.act none (.px (some 13) (.pick (.v 10) (.c (.bool true)) (.v 12)))) <|
    .st (.act none (.ex (some 14) (.call fn_spec_l1Bool [.v 13]))) K55_4) (.ret)
@[simp] def W55_5 := @C.wpe _ _ K55_5.eq_1
def K55_6 : Pl := .st (.act none (.px (some 3) (.mv (.v 11)))) .done
@[simp] def W55_6 := @Pl.wpe _ _ K55_6.eq_1
def K55_7 : C := .seq (.pl <| .st (.ext 8 4) <|
    .st (.act none (.px (some 8) (.mv (.v 4)))) <|
    .st (.act none (.px (some 9) (.mv (.v 5)))) <|
    .st (.act none (.px (some 10) (.bin .eql (.v 8) (.v 9)))) <|
    .st (.act none (.ex (some 11) (.call fn_spec_l1Bool [.v 10]))) K55_6) (.ret)
@[simp] def W55_7 := @C.wpe _ _ K55_7.eq_1
def K55_8 : Pl := .st (.act none (.px (some 3) (.mv (.v 11)))) .done
@[simp] def W55_8 := @Pl.wpe _ _ K55_8.eq_1
def K55_9 : C := .seq (.pl <| .st (.ext 8 4) <|
    .st (.act none (.px (some 8) (.mv (.v 4)))) <|
    .st (.act none (.px (some 9) (.mv (.v 5)))) <|
    .st (.act none (.px (some 10) (.bin .lss (.v 8) (.v 9)))) <|
    .st (.act none (.ex (some 11) (.call fn_spec_l1Bool [.v 10]))) K55_8) (.ret)
@[simp] def W55_9 := @C.wpe _ _ K55_9.eq_1
def K55_10 : C := .seq (.pl <| .st (.ext 8 4) <|
    .st (.act none (.px (some 8) (.mv (.v 4)))) <|
    .st (.act none (.px (some 9) (.mv (.v 5)))) <|
    .st (.act none (.px (some 10) (.bin .add (.v 8) (.v 9)))) <|
    .st (.act none (.px (some 11) (.bin .rem (.v 10) (.c (.int .i64 4))))) <|
    .st (.act none (.px (some 3) (.mv (.v 11)))) .done) (.ret)
@[simp] def W55_10 := @C.wpe _ _ K55_10.eq_1
def K55_11 : C := .cond 8 (.v 9) K55_10 (.skip)
@[simp] def W55_11 := @C.wpe _ _ K55_11.eq_1
def K55_12 : C := .seq (.pl <| .st (.ext 8 2) <|
    .st (.act none (.px (some 8) (.bin .eql (.v 7) (.c (.int .i64 8))))) <|
    .st (.act none (.px (some 9) (.mv (.v 8)))) .done) K55_11
@[simp] def W55_12 := @C.wpe _ _ K55_12.eq_1
def K55_13 : C := .cond 8 (.v 9) K55_9 K55_12
@[simp] def W55_13 := @C.wpe _ _ K55_13.eq_1
def K55_14 : C := .seq (.pl <| .st (.ext 8 2) <|
    .st (.act none (.px (some 8) (.bin .eql (.v 7) (.c (.int .i64 7))))) <|
    .st (.act none (.px (some 9) (.mv (.v 8)))) .done) K55_13
@[simp] def W55_14 := @C.wpe _ _ K55_14.eq_1
def K55_15 : C := .cond 8 (.v 9) K55_7 K55_14
@[simp] def W55_15 := @C.wpe _ _ K55_15.eq_1
def K55_16 : C := .seq (.pl <| .st (.ext 8 2) <|
    .st (.act none (.px (some 8) (.bin .eql (.v 7) (.c (.int .i64 6))))) <|
    .st (.act none (.px (some 9) (.mv (.v 8)))) .done) K55_15
@[simp] def W55_16 := @C.wpe _ _ K55_16.eq_1
def K55_17 : C := .cond 8 (.v 9) K55_5 K55_16
@[simp] def W55_17 := @C.wpe _ _ K55_17.eq_1
def K55_18 : C := .seq (.pl <| .st (.ext 8 2) <|
    .st (.act none (.px (some 8) (.bin .eql (.v 7) (.c (.int .i64 5))))) <|
    .st (.act none (.px (some 9) (.mv (.v 8)))) .done) K55_17
@[simp] def W55_18 := @C.wpe _ _ K55_18.eq_1
def K55_19 : C := .cond 8 (.v 9) K55_3 K55_18
@[simp] def W55_19 := @C.wpe _ _ K55_19.eq_1
def K55_20 : C := .block 1 (.seq (.pl <| .st (.ext 8 2) <|
    .st (.act none (.px (some 8) (.bin .eql (.v 7) (.c (.int .i64 4))))) <|
    .st (.act none (.px (some 9) (.mv (.v 8)))) .done) K55_19)
@[simp] def W55_20 := @C.wpe _ _ K55_20.eq_1
def K55_21 : C := .seq (.seq (.pl <| .st (.ext 8 1) <|
    .st (.act none (.als 8 none 2)) <|
    .st (.act none (.pget (some 7) (some 8) 2 0 none)) .done) K55_20) K55_1
@[simp] def W55_21 := @C.wpe _ _ K55_21.eq_1
def K55_22 : Pl := .st (.act none (.px (some 5) (.mv (.v 13)))) .done
@[simp] def W55_22 := @Pl.wpe _ _ K55_22.eq_1
def K55_23 : C := .seq (.pl <| .st (.ext 8 6) <|
    .st (.act none (.als 8 none 2)) <|
    .st (.act none (.pget (some 9) (some 8) 2 2 none)) <|
    .st (.act none (.px (some 10) (.ia 3 (.v 9) (.c (.int .i64 1))))) <|
    .st (.act none (.ld (some 11) (.v 10) (some 3))) <|
    .st (.act none (.px (some 12) (.mv (.v 1)))) <|
    .st (.act none (.ex (some 13) (.call fn_spec_l1Eval [.v 11, .v 12]))) K55_22) K55_21
@[simp] def W55_23 := @C.wpe _ _ K55_23.eq_1
def K55_24 : Pl := .st (.act none (.px (some 4) (.mv (.v 13)))) .done
@[simp] def W55_24 := @Pl.wpe _ _ K55_24.eq_1
def K55_25 : C := .seq (.pl <| .st (.ext 8 6) <|
    .st (.act none (.als 8 none 2)) <|
    .st (.act none (.pget (some 9) (some 8) 2 2 none)) <|
    .st (.act none (.px (some 10) (.ia 3 (.v 9) (.c (.int .i64 0))))) <|
    .st (.act none (.ld (some 11) (.v 10) (some 3))) <|
    .st (.act none (.px (some 12) (.mv (.v 1)))) <|
    .st (.act none (.ex (some 13) (.call fn_spec_l1Eval [.v 11, .v 12]))) K55_24) K55_23
@[simp] def W55_25 := @C.wpe _ _ K55_25.eq_1
def K55_26 : C := .seq (.pl <| .st (.ext 8 2) <|
    .st (.act none (.als 8 none 2)) <|
    .st (.act none (.pget (some 9) (some 8) 2 1 none)) <|
    .st (.act none (.px (some 3) (.mv (.v 9)))) .done) (.ret)
@[simp] def W55_26 := @C.wpe _ _ K55_26.eq_1
def K55_27 : C := .seq (.pl <| .st (.ext 8 5) <|
    .st (.act none (.px (some 8) (.mv (.v 1)))) <|
    .st (.act none (.als 9 none 2)) <|
    .st (.act none (.pget (some 10) (some 9) 2 1 none)) <|
    .st (.act none (.px (some 11) (.ia 1 (.v 8) (.v 10)))) <|
    .st (.act none (.ld (some 12) (.v 11) none)) <|
    .st (.act none (.px (some 3) (.mv (.v 12)))) .done) (.ret)
@[simp] def W55_27 := @C.wpe _ _ K55_27.eq_1
def K55_28 : Pl := .st (.act none (.px (some 3) (.mv (.v 15)))) .done
@[simp] def W55_28 := @Pl.wpe _ _ K55_28.eq_1
def K55_29 : Pl := .st (.act none (.px (some 14) (.bin .eql (.v 13) (.c (.int .i64 0))))) <|
    .st (.act none (.ex (some 15) (.call fn_spec_l1Bool [.v 14]))) K55_28
@[simp] def W55_29 := @Pl.wpe _ _ K55_29.eq_1
def K55_30 : C := .seq (.pl <| .st (.ext 8 8) <|
    .st (.act none (.als 8 none 2)) <|
    .st (.act none (.pget (some 9) (some 8) 2 2 none)) <|
    .st (.act none (.px (some 10) (.ia 3 (.v 9) (.c (.int .i64 0))))) <|
    .st (.act none (.ld (some 11) (.v 10) (some 3))) <|
    .st (.act none (.px (some 12) (.mv (.v 1)))) <|
    .st (.act none (.ex (some 13) (.call fn_spec_l1Eval [.v 11, .v 12]))) K55_29) (.ret)
@[simp] def W55_30 := @C.wpe _ _ K55_30.eq_1
def K55_31 : C := .cond 8 (.v 9) K55_30 (.skip)
@[simp] def W55_31 := @C.wpe _ _ K55_31.eq_1
def K55_32 : C := .seq (.pl <| .st (.ext 8 2) <|
    .st (.act none (.px (some 8) (.bin .eql (.v 6) (.c (.int .i64 3))))) <|
    .st (.act none (.px (some 9) (.mv (.v 8)))) .done) K55_31
@[simp] def W55_32 := @C.wpe _ _ K55_32.eq_1
def K55_33 : C := .cond 8 (.v 9) K55_27 K55_32
@[simp] def W55_33 := @C.wpe _ _ K55_33.eq_1
def K55_34 : C := .seq (.pl <| .st (.ext 8 2) <|
    .st (.act none (.px (some 8) (.bin .eql (.v 6) (.c (.int .i64 2))))) <|
    .st (.act none (.px (some 9) (.mv (.v 8)))) .done) K55_33
@[simp] def W55_34 := @C.wpe _ _ K55_34.eq_1
def K55_35 : C := .cond 8 (.v 9) K55_26 K55_34
@[simp] def W55_35 := @C.wpe _ _ K55_35.eq_1
def K55_36 : C := .block 0 (.seq (.pl <| .st (.ext 8 2) <|
    .st (.act none (.px (some 8) (.bin .eql (.v 6) (.c (.int .i64 1))))) <|
    .st (.act none (.px (some 9) (.mv (.v 8)))) .done) K55_35)
@[simp] def W55_36 := @C.wpe _ _ K55_36.eq_1
def K55_37 : C := .seq (.seq (.pl <| .st (.ext 8 1) <|
    .st (.act none (.als 8 none 2)) <|
    .st (.act none (.pget (some 6) (some 8) 2 0 none)) .done) K55_36) K55_25
@[simp] def W55_37 := @C.wpe _ _ K55_37.eq_1
def B_spec_l1Eval : C := .seq (.pl <| .st (.ext 8 0) <|
    .st (.act none (.pnew 2 (.v 0) [])) <|
    .st (.act none (.px (some 3) (.mv (.c (.int .i64 0))))) .done) K55_37
@[simp] def WB_spec_l1Eval := @C.wpe _ _ B_spec_l1Eval.eq_1
def R_spec_l1Eval : FIR := ⟨B_spec_l1Eval, 8, [(3, none)]⟩
theorem IR_spec_l1Eval : cfun Tryz.prog H_spec_l1Eval Tryz.f55 = some R_spec_l1Eval := by kernel_rfl
theorem EN_spec_l1Eval {args : List Value} {h : Heap} {k : Value → Heap → Prop} (hargs : args.length = 2) (hw : B_spec_l1Eval.wp Tryz.prog (retQ [(3, none)] k) (env0 args 8) h) : CallE Tryz.prog fn_spec_l1Eval args h k := enter Tryz.func55 rfl IR_spec_l1Eval hargs hw

def H_spec_l1Shape : Hint := ⟨[(0, false), (1, false), (2, true), (4, false), (5, false), (6, false), (19, false)], [[0, 3, 4, 6]]⟩
def K93_1 : C := .seq (.pl <| .st (.ext 7 0) <|
    .st (.act none (.px (some 3) (.mv (.c (.bool true))))) .done) (.ret)
@[simp] def W93_1 := @C.wpe _ _ K93_1.eq_1
def K93_2 : C := .pl <| .st (.ext 7 2) <|
    .st (.act none (.px (some 7) (.mv (.v 5)))) <|
    .st (.act none (.px (some 8) (.bin .add (.v 7) (.c (.int .i64 1))))) <|
    .st (.act none (.px (some 5) (.mv (.v 8)))) .done
@[simp] def W93_2 := @C.wpe _ _ K93_2.eq_1
def K93_3 : C := .seq (.pl <| .st (.ext 7 0) <|
    .st (.act none (.px (some 3) (.mv (.c (.bool false))))) .done) (.ret)
@[simp] def W93_3 := @C.wpe _ _ K93_3.eq_1
def K93_4 : C := .cond 7 (.v 15) K93_3 (.skip)
@[simp] def W93_4 := @C.wpe _ _ K93_4.eq_1
def K93_5 : Pl := .st (.act none (.px (some 15) (.un .not (.v 14)))) .done
@[simp] def W93_5 := @Pl.wpe _ _ K93_5.eq_1
def K93_6 : C := .seq (.block 2 (.seq (.pl <| .st (.ext 7 9) <|
    .st (.act none (.als 7 none 2)) <|
    .st (.act none (.pget (some 8) (some 7) 2 2 none)) <|
    .st (.act none (.px (some 9) (.mv (.v 5)))) <|
    .st (.act none (.px (some 10) (.ia 3 (.v 8) (.v 9)))) <|
    .st (.act none (.ld (some 11) (.v 10) (some 3))) <|
    .st (.act none (.px (some 12) (.mv (.v 1)))) <|
    .st (.act none (.px (some 13) (.bin .sub (.v 12) (.c (.int .i64 1))))) <|
    .st (.act none (.ex (some 14) (.call fn_spec_l1Shape [.v 11, .v 13]))) K93_5) K93_4)) K93_2
@[simp] def W93_6 := @C.wpe _ _ K93_6.eq_1
def K93_7 : C := .cond 7 (.v 11) (.skip) (.exit 1)
@[simp] def W93_7 := @C.wpe _ _ K93_7.eq_1
def K93_8 : C := .seq (.seq (.pl <| .st (.ext 7 5) <|
    .st (.act none (.px (some 7) (.mv (.v 5)))) <|
    .st (.act none (.als 8 none 2)) <|
    .st (.act none (.pget (some 9) (some 8) 2 2 none)) <|
    .st (.act none (.px (some 10) (.lenV (.v 9)))) <|
    .st (.act none (.px (some 11) (.bin .lss (.v 7) (.v 10)))) .done) K93_7) K93_6
@[simp] def W93_8 := @C.wpe _ _ K93_8.eq_1
def K93_9 : C := .block 1 (.loop 7 [0, 3, 4, 6] K93_8)
@[simp] def W93_9 := @C.wpe _ _ K93_9.eq_1
def K93_10 : C := .seq (.seq (.pl <| .st (.ext 7 0) <|
    .st (.act none (.px (some 5) (.mv (.c (.int .i64 0))))) .done) K93_9) K93_1
@[simp] def W93_10 := @C.wpe _ _ K93_10.eq_1
def K93_11 : C := .seq (.pl <| .st (.ext 7 0) <|
    .st (.act none (.px (some 3) (.mv (.c (.bool false))))) .done) (.ret)
@[simp] def W93_11 := @C.wpe _ _ K93_11.eq_1
def K93_12 : C := .cond 7 (.v 15) K93_11 (.skip)
@[simp] def W93_12 := @C.wpe _ _ K93_12.eq_1
def K93_13 : C := .seq (.seq (.pl <| .st (.ext 7 9) <|
    .st (.act none (.als 7 none 2)) <|
    .st (.act none (.pget (some 8) (some 7) 2 1 none)) <|
    .st (.act none (.px (some 9) (.bin .lss (.v 8) (.c (.int .i64 0))))) <|
    .st (.act none (.px (some 10) (.mv (.v 9)))) <|
    .st (.act (some (.v 10, false)) (.als 11 none 2)) <|
    .st (.act (some (.v 10, false)) (.pget (some 12) (some 11) 2 1 none)) <|
    .st (.act (some (.v 10, false)) (.px (some 13) (.mv (.v 4)))) <|
    .st (.act (some (.v 10, false)) (.px (some 14) (.bin .gtr (.v 12) (.v 13)))) <|
    .st (.act none (.px (some 15) (.pick (.v 10) (.c (.bool true)) (.v 14)))) .done) K93_12) K93_10
@[simp] def W93_13 := @C.wpe _ _ K93_13.eq_1
def K93_14 : C := .pl <| .st (.ext 7 0) <|
    .st (.act none (.px (some 4) (.mv (.c (.int .i64 3))))) .done
@[simp] def W93_14 := @C.wpe _ _ K93_14.eq_1
def K93_15 : C := .pl <| .st (.ext 7 0) <|
    .st (.act none (.px (some 4) (.mv (.c (.int .i64 2))))) .done
@[simp] def W93_15 := @C.wpe _ _ K93_15.eq_1
def K93_16 : C := .cond 7 (.v 8) K93_15 (.skip)
@[simp] def W93_16 := @C.wpe _ _ K93_16.eq_1
def K93_17 : C := .seq (.pl <| .st (.ext 7 2) <|
    .st (.act none (.px (some 7) (.bin .eql (.v 6) (.c (.int .i64 2))))) <|
    .st (.act none (.px (some 8) (.mv (.v 7)))) .done) K93_16
@[simp] def W93_17 := @C.wpe _ _ K93_17.eq_1
def K93_18 : C := .cond 7 (.v 8) K93_14 K93_17
@[simp] def W93_18 := @C.wpe _ _ K93_18.eq_1
def K93_19 : C := .block 0 (.seq (.pl <| .st (.ext 7 2) <|
    .st (.act none (.px (some 7) (.bin .eql (.v 6) (.c (.int .i64 1))))) <|
    .st (.act none (.px (some 8) (.mv (.v 7)))) .done) K93_18)
@[simp] def W93_19 := @C.wpe _ _ K93_19.eq_1
def K93_20 : C := .seq (.seq (.pl <| .st (.ext 7 1) <|
    .st (.act none (.als 7 none 2)) <|
    .st (.act none (.pget (some 6) (some 7) 2 0 none)) .done) K93_19) K93_13
@[simp] def W93_20 := @C.wpe _ _ K93_20.eq_1
def K93_21 : C := .seq (.pl <| .st (.ext 7 0) <|
    .st (.act none (.px (some 4) (.mv (.c (.int .i64 0))))) .done) K93_20
@[simp] def W93_21 := @C.wpe _ _ K93_21.eq_1
def K93_22 : C := .seq (.pl <| .st (.ext 7 0) <|
    .st (.act none (.px (some 3) (.mv (.c (.bool false))))) .done) (.ret)
@[simp] def W93_22 := @C.wpe _ _ K93_22.eq_1
def K93_23 : C := .cond 7 (.v 17) K93_22 (.skip)
@[simp] def W93_23 := @C.wpe _ _ K93_23.eq_1
def K93_24 : Pl := .st (.act (some (.v 9, false)) (.px (some 16) (.bin .neq (.v 12) (.v 15)))) <|
    .st (.act none (.px (some 17) (.pick (.v 9) (.c (.bool true)) (.v 16)))) .done
@[simp] def W93_24 := @Pl.wpe _ _ K93_24.eq_1
def K93_25 : C := .seq (.seq (.pl <| .st (.ext 7 11) <|
    .st (.act none (.px (some 7) (.mv (.v 1)))) <|
    .st (.act none (.px (some 8) (.bin .lss (.v 7) (.c (.int .i64 1))))) <|
    .st (.act none (.px (some 9) (.mv (.v 8)))) <|
    .st (.act (some (.v 9, false)) (.als 10 none 2)) <|
    .st (.act (some (.v 9, false)) (.pget (some 11) (some 10) 2 2 none)) <|
    .st (.act (some (.v 9, false)) (.px (some 12) (.lenV (.v 11)))) <|
    .st (.act (some (.v 9, false)) (.als 13 none 2)) <|
    .st (.act (some (.v 9, false)) (.pget (some 14) (some 13) 2 0 none)) <|
    .st (.act (some (.v 9, false)) (.ex (some 15) (.call fn_spec_l1Arity [.v 14]))) K93_24) K93_23) K93_21
@[simp] def W93_25 := @C.wpe _ _ K93_25.eq_1
def B_spec_l1Shape : C := .seq (.pl <| .st (.ext 7 0) <|
    .st (.act none (.pnew 2 (.v 0) [])) <|
    .st (.act none (.px (some 3) (.mv (.c (.bool false))))) .done) K93_25
@[simp] def WB_spec_l1Shape := @C.wpe _ _ B_spec_l1Shape.eq_1
def R_spec_l1Shape : FIR := ⟨B_spec_l1Shape, 7, [(3, none)]⟩
theorem IR_spec_l1Shape : cfun Tryz.prog H_spec_l1Shape Tryz.f93 = some R_spec_l1Shape := by kernel_rfl
theorem EN_spec_l1Shape {args : List Value} {h : Heap} {k : Value → Heap → Prop} (hargs : args.length = 2) (hw : B_spec_l1Shape.wp Tryz.prog (retQ [(3, none)] k) (env0 args 7) h) : CallE Tryz.prog fn_spec_l1Shape args h k := enter Tryz.func93 rfl IR_spec_l1Shape hargs hw

def H_spec_l1Vals : Hint := ⟨[(0, false), (2, false), (3, false)], [[1]]⟩
def K92_1 : C := .seq (.pl <| .st (.ext 3 3) <|
    .st (.act none (.px (some 3) (.mv (.v 0)))) <|
    .st (.act none (.px (some 4) (.lenV (.v 3)))) <|
    .st (.act none (.px (some 5) (.bin .eql (.v 4) (.c (.int .i64 3))))) <|
    .st (.act none (.px (some 1) (.mv (.v 5)))) .done) (.ret)
@[simp] def W92_1 := @C.wpe _ _ K92_1.eq_1
def K92_2 : C := .pl <| .st (.ext 3 2) <|
    .st (.act none (.px (some 3) (.mv (.v 2)))) <|
    .st (.act none (.px (some 4) (.bin .add (.v 3) (.c (.int .i64 1))))) <|
    .st (.act none (.px (some 2) (.mv (.v 4)))) .done
@[simp] def W92_2 := @C.wpe _ _ K92_2.eq_1
def K92_3 : C := .seq (.pl <| .st (.ext 3 0) <|
    .st (.act none (.px (some 1) (.mv (.c (.bool false))))) .done) (.ret)
@[simp] def W92_3 := @C.wpe _ _ K92_3.eq_1
def K92_4 : C := .cond 3 (.v 14) K92_3 (.skip)
@[simp] def W92_4 := @C.wpe _ _ K92_4.eq_1
def K92_5 : C := .seq (.block 1 (.seq (.pl <| .st (.ext 3 12) <|
    .st (.act none (.px (some 3) (.mv (.v 0)))) <|
    .st (.act none (.px (some 4) (.mv (.v 2)))) <|
    .st (.act none (.px (some 5) (.ia 1 (.v 3) (.v 4)))) <|
    .st (.act none (.ld (some 6) (.v 5) none)) <|
    .st (.act none (.px (some 7) (.bin .lss (.v 6) (.c (.int .i64 0))))) <|
    .st (.act none (.px (some 8) (.mv (.v 7)))) <|
    .st (.act (some (.v 8, false)) (.px (some 9) (.mv (.v 0)))) <|
    .st (.act (some (.v 8, false)) (.px (some 10) (.mv (.v 2)))) <|
    .st (.act (some (.v 8, false)) (.px (some 11) (.ia 1 (.v 9) (.v 10)))) <|
    .st (.act (some (.v 8, false)) (.ld (some 12) (.v 11) none)) <|
    .st (.act (some (.v 8, false)) (.px (some 13) (.bin .gtr (.v 12) (.c (.int .i64 3))))) <|
    .st (.act none (.px (some 14) (.pick (.v 8) (.c (.bool true)) (.v 13)))) .done) K92_4)) K92_2
@[simp] def W92_5 := @C.wpe _ _ K92_5.eq_1
def K92_6 : C := .cond 3 (.v 6) (.skip) (.exit 0)
@[simp] def W92_6 := @C.wpe _ _ K92_6.eq_1
def K92_7 : C := .seq (.seq (.pl <| .st (.ext 3 4) <|
    .st (.act none (.px (some 3) (.mv (.v 2)))) <|
    .st (.act none (.px (some 4) (.mv (.v 0)))) <|
    .st (.act none (.px (some 5) (.lenV (.v 4)))) <|
    .st (.act none (.px (some 6) (.bin .lss (.v 3) (.v 5)))) .done) K92_6) K92_5
@[simp] def W92_7 := @C.wpe _ _ K92_7.eq_1
def K92_8 : C := .block 0 (.loop 3 [1] K92_7)
@[simp] def W92_8 := @C.wpe _ _ K92_8.eq_1
def K92_9 : C := .seq (.seq (.pl <| .st (.ext 3 0) <|
    .st (.act none (.px (some 2) (.mv (.c (.int .i64 0))))) .done) K92_8) K92_1
@[simp] def W92_9 := @C.wpe _ _ K92_9.eq_1
def B_spec_l1Vals : C := .seq (.pl <| .st (.ext 3 0) <|
    .st (.act none (.px (some 1) (.mv (.c (.bool false))))) .done) K92_9
@[simp] def WB_spec_l1Vals := @C.wpe _ _ B_spec_l1Vals.eq_1
def R_spec_l1Vals : FIR := ⟨B_spec_l1Vals, 3, [(1, none)]⟩
theorem IR_spec_l1Vals : cfun Tryz.prog H_spec_l1Vals Tryz.f92 = some R_spec_l1Vals := by kernel_rfl
theorem EN_spec_l1Vals {args : List Value} {h : Heap} {k : Value → Heap → Prop} (hargs : args.length = 1) (hw : B_spec_l1Vals.wp Tryz.prog (retQ [(1, none)] k) (env0 args 3) h) : CallE Tryz.prog fn_spec_l1Vals args h k := enter Tryz.func92 rfl IR_spec_l1Vals hargs hw

def H_spec_l2Ints : Hint := ⟨[(0, false), (1, false), (4, false), (5, false)], [[2]]⟩
def K107_1 : C := .seq (.pl <| .st (.ext 4 0) <|
    .st (.act none (.px (some 2) (.mv (.c (.bool true))))) .done) (.ret)
@[simp] def W107_1 := @C.wpe _ _ K107_1.eq_1
def K107_2 : C := .pl <| .st (.ext 4 2) <|
    .st (.act none (.px (some 4) (.mv (.v 3)))) <|
    .st (.act none (.px (some 5) (.bin .add (.v 4) (.c (.int .i64 1))))) <|
    .st (.act none (.px (some 3) (.mv (.v 5)))) .done
@[simp] def W107_2 := @C.wpe _ _ K107_2.eq_1
def K107_3 : C := .seq (.pl <| .st (.ext 4 0) <|
    .st (.act none (.px (some 2) (.mv (.c (.bool false))))) .done) (.ret)
@[simp] def W107_3 := @C.wpe _ _ K107_3.eq_1
def K107_4 : C := .cond 4 (.v 12) K107_3 (.skip)
@[simp] def W107_4 := @C.wpe _ _ K107_4.eq_1
def K107_5 : C := .seq (.block 1 (.seq (.pl <| .st (.ext 4 9) <|
    .st (.act none (.px (some 4) (.mv (.v 0)))) <|
    .st (.act none (.px (some 5) (.mv (.v 3)))) <|
    .st (.act none (.px (some 6) (.ia 1 (.v 4) (.v 5)))) <|
    .st (.act none (.ld (some 7) (.v 6) none)) <|
    .st (.act none (.px (some 8) (.mv (.v 1)))) <|
    .st (.act none (.px (some 9) (.mv (.v 3)))) <|
    .st (.act none (.px (some 10) (.ia 1 (.v 8) (.v 9)))) <|
    .st (.act none (.ld (some 11) (.v 10) none)) <|
    .st (.act none (.px (some 12) (.bin .neq (.v 7) (.v 11)))) .done) K107_4)) K107_2
@[simp] def W107_5 := @C.wpe _ _ K107_5.eq_1
def K107_6 : C := .cond 4 (.v 7) (.skip) (.exit 0)
@[simp] def W107_6 := @C.wpe _ _ K107_6.eq_1
def K107_7 : C := .seq (.seq (.pl <| .st (.ext 4 4) <|
    .st (.act none (.px (some 4) (.mv (.v 3)))) <|
    .st (.act none (.px (some 5) (.mv (.v 0)))) <|
    .st (.act none (.px (some 6) (.lenV (.v 5)))) <|
    .st (.act none (.px (some 7) (.bin .lss (.v 4) (.v 6)))) .done) K107_6) K107_5
@[simp] def W107_7 := @C.wpe _ _ K107_7.eq_1
def K107_8 : C := .block 0 (.loop 4 [2] K107_7)
@[simp] def W107_8 := @C.wpe _ _ K107_8.eq_1
def K107_9 : C := .seq (.seq (.pl <| .st (.ext 4 0) <|
    .st (.act none (.px (some 3) (.mv (.c (.int .i64 0))))) .done) K107_8) K107_1
@[simp] def W107_9 := @C.wpe _ _ K107_9.eq_1
def K107_10 : C := .seq (.pl <| .st (.ext 4 0) <|
    .st (.act none (.px (some 2) (.mv (.c (.bool false))))) .done) (.ret)
@[simp] def W107_10 := @C.wpe _ _ K107_10.eq_1
def K107_11 : C := .cond 4 (.v 8) K107_10 (.skip)
@[simp] def W107_11 := @C.wpe _ _ K107_11.eq_1
def K107_12 : C := .seq (.seq (.pl <| .st (.ext 4 5) <|
    .st (.act none (.px (some 4) (.mv (.v 0)))) <|
    .st (.act none (.px (some 5) (.lenV (.v 4)))) <|
    .st (.act none (.px (some 6) (.mv (.v 1)))) <|
    .st (.act none (.px (some 7) (.lenV (.v 6)))) <|
    .st (.act none (.px (some 8) (.bin .neq (.v 5) (.v 7)))) .done) K107_11) K107_9
@[simp] def W107_12 := @C.wpe _ _ K107_12.eq_1
def B_spec_l2Ints : C := .seq (.pl <| .st (.ext 4 0) <|
    .st (.act none (.px (some 2) (.mv (.c (.bool false))))) .done) K107_12
@[simp] def WB_spec_l2Ints := @C.wpe _ _ B_spec_l2Ints.eq_1
def R_spec_l2Ints : FIR := ⟨B_spec_l2Ints, 4, [(2, none)]⟩
theorem IR_spec_l2Ints : cfun Tryz.prog H_spec_l2Ints Tryz.f107 = some R_spec_l2Ints := by kernel_rfl
theorem EN_spec_l2Ints {args : List Value} {h : Heap} {k : Value → Heap → Prop} (hargs : args.length = 2) (hw : B_spec_l2Ints.wp Tryz.prog (retQ [(2, none)] k) (env0 args 4) h) : CallE Tryz.prog fn_spec_l2Ints args h k := enter Tryz.func107 rfl IR_spec_l2Ints hargs hw

def H_spec_l2None : Hint := ⟨[(0, false), (1, true), (2, false)], []⟩
def K128_1 : C := .seq (.pl <| .st (.ext 3 14) <|
    .st (.act none (.als 3 none 1)) <|
    .st (.act none (.pget (some 4) (some 3) 1 0 none)) <|
    .st (.act none (.px (some 5) (.bin .eql (.v 4) (.c (.int .i64 0))))) <|
    .st (.act none (.px (some 6) (.mv (.v 5)))) <|
    .st (.act (some (.v 6, true)) (.als 7 none 1)) <|
    .st (.act (some (.v 6, true)) (.pget (some 8) (some 7) 1 1 none)) <|
    .st (.act (some (.v 6, true)) (.px (some 9) (.bin .eql (.v 8) (.c (.int .i64 0))))) <|
    .st (.act none (.px (some 10) (.pick (.v 6) (.v 9) (.c (.bool false))))) <|
    .st (.act none (.px (some 11) (.mv (.v 10)))) <|
    .st (.act (some (.v 11, true)) (.als 12 none 1)) <|
    .st (.act (some (.v 11, true)) (.pget (some 13) (some 12) 1 2 none)) <|
    .st (.act (some (.v 11, true)) (.px (some 14) (.lenV (.v 13)))) <|
    .st (.act (some (.v 11, true)) (.px (some 15) (.bin .eql (.v 14) (.c (.int .i64 0))))) <|
    .st (.act none (.px (some 16) (.pick (.v 11) (.v 15) (.c (.bool false))))) <|
    .st (.act none (.px (some 2) (.mv (.v 16)))) .done) (.ret)
@[simp] def W128_1 := @C.wpe _ _ K128_1.eq_1
def B_spec_l2None : C := .seq (.pl <| .st (.ext 3 0) <|
    .st (.act none (.pnew 1 (.v 0) [])) <|
    .st (.act none (.px (some 2) (.mv (.c (.bool false))))) .done) K128_1
@[simp] def WB_spec_l2None := @C.wpe _ _ B_spec_l2None.eq_1
def R_spec_l2None : FIR := ⟨B_spec_l2None, 3, [(2, none)]⟩
theorem IR_spec_l2None : cfun Tryz.prog H_spec_l2None Tryz.f128 = some R_spec_l2None := by kernel_rfl
theorem EN_spec_l2None {args : List Value} {h : Heap} {k : Value → Heap → Prop} (hargs : args.length = 1) (hw : B_spec_l2None.wp Tryz.prog (retQ [(2, none)] k) (env0 args 3) h) : CallE Tryz.prog fn_spec_l2None args h k := enter Tryz.func128 rfl IR_spec_l2None hargs hw

def H_spec_l2Process : Hint := ⟨[(0, false), (1, true), (2, false), (3, false)], [[0, 2]]⟩
def K91_1 : C := .seq (.pl <| .st (.ext 4 14) <|
    .st (.act none (.als 4 none 1)) <|
    .st (.act none (.pget (some 5) (some 4) 1 0 none)) <|
    .st (.act none (.px (some 6) (.bin .geq (.v 5) (.c (.int .i64 1))))) <|
    .st (.act none (.px (some 7) (.mv (.v 6)))) <|
    .st (.act (some (.v 7, true)) (.als 8 none 1)) <|
    .st (.act (some (.v 7, true)) (.pget (some 9) (some 8) 1 0 none)) <|
    .st (.act (some (.v 7, true)) (.px (some 10) (.bin .leq (.v 9) (.c (.int .i64 4))))) <|
    .st (.act none (.px (some 11) (.pick (.v 7) (.v 10) (.c (.bool false))))) <|
    .st (.act none (.px (some 12) (.mv (.v 11)))) <|
    .st (.act (some (.v 12, true)) (.als 13 none 1)) <|
    .st (.act (some (.v 12, true)) (.pget (some 14) (some 13) 1 1 none)) <|
    .st (.act (some (.v 12, true)) (.px (some 15) (.lenV (.v 14)))) <|
    .st (.act (some (.v 12, true)) (.px (some 16) (.bin .leq (.v 15) (.c (.int .i64 6))))) <|
    .st (.act none (.px (some 17) (.pick (.v 12) (.v 16) (.c (.bool false))))) <|
    .st (.act none (.px (some 2) (.mv (.v 17)))) .done) (.ret)
@[simp] def W91_1 := @C.wpe _ _ K91_1.eq_1
def K91_2 : C := .pl <| .st (.ext 4 2) <|
    .st (.act none (.px (some 4) (.mv (.v 3)))) <|
    .st (.act none (.px (some 5) (.bin .add (.v 4) (.c (.int .i64 1))))) <|
    .st (.act none (.px (some 3) (.mv (.v 5)))) .done
@[simp] def W91_2 := @C.wpe _ _ K91_2.eq_1
def K91_3 : C := .seq (.pl <| .st (.ext 4 0) <|
    .st (.act none (.px (some 2) (.mv (.c (.bool false))))) .done) (.ret)
@[simp] def W91_3 := @C.wpe _ _ K91_3.eq_1
def K91_4 : C := .cond 4 (.v 12) K91_3 (.skip)
@[simp] def W91_4 := @C.wpe _ _ K91_4.eq_1
def K91_5 : Pl := .st (.act none (.px (some 12) (.un .not (.v 11)))) .done
@[simp] def W91_5 := @Pl.wpe _ _ K91_5.eq_1
def K91_6 : C := .seq (.block 1 (.seq (.pl <| .st (.ext 4 9) <|
    .st (.act none (.als 4 none 1)) <|
    .st (.act none (.pget (some 5) (some 4) 1 1 none)) <|
    .st (.act none (.px (some 6) (.mv (.v 3)))) <|
    .st (.act none (.px (some 7) (.ia 10 (.v 5) (.v 6)))) <|
    .st (.act none (.ld (some 8) (.v 7) (some 10))) <|
    .st (.act none (.als 9 none 1)) <|
    .st (.act none (.pget (some 10) (some 9) 1 0 none)) <|
    .st (.act none (.ex (some 11) (.call fn_spec_EdgeValid [.v 8, .v 10]))) K91_5) K91_4)) K91_2
@[simp] def W91_6 := @C.wpe _ _ K91_6.eq_1
def K91_7 : C := .cond 4 (.v 8) (.skip) (.exit 0)
@[simp] def W91_7 := @C.wpe _ _ K91_7.eq_1
def K91_8 : C := .seq (.seq (.pl <| .st (.ext 4 5) <|
    .st (.act none (.px (some 4) (.mv (.v 3)))) <|
    .st (.act none (.als 5 none 1)) <|
    .st (.act none (.pget (some 6) (some 5) 1 1 none)) <|
    .st (.act none (.px (some 7) (.lenV (.v 6)))) <|
    .st (.act none (.px (some 8) (.bin .lss (.v 4) (.v 7)))) .done) K91_7) K91_6
@[simp] def W91_8 := @C.wpe _ _ K91_8.eq_1
def K91_9 : C := .block 0 (.loop 4 [0, 2] K91_8)
@[simp] def W91_9 := @C.wpe _ _ K91_9.eq_1
def K91_10 : C := .seq (.seq (.pl <| .st (.ext 4 0) <|
    .st (.act none (.px (some 3) (.mv (.c (.int .i64 0))))) .done) K91_9) K91_1
@[simp] def W91_10 := @C.wpe _ _ K91_10.eq_1
def B_spec_l2Process : C := .seq (.pl <| .st (.ext 4 0) <|
    .st (.act none (.pnew 1 (.v 0) [])) <|
    .st (.act none (.px (some 2) (.mv (.c (.bool false))))) .done) K91_10
@[simp] def WB_spec_l2Process := @C.wpe _ _ B_spec_l2Process.eq_1
def R_spec_l2Process : FIR := ⟨B_spec_l2Process, 4, [(2, none)]⟩
theorem IR_spec_l2Process : cfun Tryz.prog H_spec_l2Process Tryz.f91 = some R_spec_l2Process := by kernel_rfl
theorem EN_spec_l2Process {args : List Value} {h : Heap} {k : Value → Heap → Prop} (hargs : args.length = 1) (hw : B_spec_l2Process.wp Tryz.prog (retQ [(2, none)] k) (env0 args 4) h) : CallE Tryz.prog fn_spec_l2Process args h k := enter Tryz.func91 rfl IR_spec_l2Process hargs hw

def H_spec_l3Apply : Hint := ⟨[(0, false), (1, false), (2, false), (3, true), (4, true), (5, true), (6, true), (7, true)], []⟩
def K44_1 : C := .seq (.pl <| .st (.ext 8 1) <|
    .st (.act none (.pget (some 8) none 7 0 (some 2))) <|
    .st (.act none (.pset none 6 0 2 (.v 8))) .done) (.ret)
@[simp] def W44_1 := @C.wpe _ _ K44_1.eq_1
def K44_2 : Pl := .st (.act none (.pset none 7 0 2 (.v 22))) .done
@[simp] def W44_2 := @Pl.wpe _ _ K44_2.eq_1
def K44_3 : C := .pl <| .st (.ext 8 15) <|
    .st (.act none (.pget (some 8) none 7 0 (some 2))) <|
    .st (.act none (.als 9 none 5)) <|
    .st (.act none (.pget (some 10) (some 9) 5 2 none)) <|
    .st (.act none (.als 11 none 3)) <|
    .st (.act none (.pget (some 12) (some 11) 3 1 none)) <|
    .st (.act none (.als 13 none 5)) <|
    .st (.act none (.pget (some 14) (some 13) 5 2 none)) <|
    .st (.act none (.px (some 15) (.ia 2 (.v 12) (.v 14)))) <|
    .st (.act none (.px (some 16) (.fa 1 (.v 15)))) <|
    .st (.act none (.ld (some 17) (.v 16) none)) <|
    .st (.act none (.als 18 none 5)) <|
    .st (.act none (.pget (some 19) (some 18) 5 3 none)) <|
    .st (.act none (.px (some 20) (.ia 10 (.v 17) (.v 19)))) <|
    .st (.act none (.ld (some 21) (.v 20) (some 10))) <|
    .st (.act none (.ex (some 22) (.call fn_spec_l3Take [.v 8, .v 10, .v 21]))) K44_2
@[simp] def W44_3 := @C.wpe _ _ K44_3.eq_1
def K44_4 : C := .cond 8 (.v 10) K44_3 (.skip)
@[simp] def W44_4 := @C.wpe _ _ K44_4.eq_1
def K44_5 : C := .seq (.seq (.pl <| .st (.ext 8 3) <|
    .st (.act none (.als 8 none 5)) <|
    .st (.act none (.pget (some 9) (some 8) 5 2 none)) <|
    .st (.act none (.px (some 10) (.bin .geq (.v 9) (.c (.int .i64 0))))) .done) K44_4) K44_1
@[simp] def W44_5 := @C.wpe _ _ K44_5.eq_1
def K44_6 : Pl := .st (.act none (.pset none 7 0 2 (.v 22))) .done
@[simp] def W44_6 := @Pl.wpe _ _ K44_6.eq_1
def K44_7 : C := .seq (.pl <| .st (.ext 8 15) <|
    .st (.act none (.pget (some 8) none 7 0 (some 2))) <|
    .st (.act none (.als 9 none 5)) <|
    .st (.act none (.pget (some 10) (some 9) 5 0 none)) <|
    .st (.act none (.als 11 none 3)) <|
    .st (.act none (.pget (some 12) (some 11) 3 1 none)) <|
    .st (.act none (.als 13 none 5)) <|
    .st (.act none (.pget (some 14) (some 13) 5 0 none)) <|
    .st (.act none (.px (some 15) (.ia 2 (.v 12) (.v 14)))) <|
    .st (.act none (.px (some 16) (.fa 1 (.v 15)))) <|
    .st (.act none (.ld (some 17) (.v 16) none)) <|
    .st (.act none (.als 18 none 5)) <|
    .st (.act none (.pget (some 19) (some 18) 5 1 none)) <|
    .st (.act none (.px (some 20) (.ia 10 (.v 17) (.v 19)))) <|
    .st (.act none (.ld (some 21) (.v 20) (some 10))) <|
    .st (.act none (.ex (some 22) (.call fn_spec_l3Take [.v 8, .v 10, .v 21]))) K44_6) K44_5
@[simp] def W44_7 := @C.wpe _ _ K44_7.eq_1
def K44_8 : Pl := .st (.act none (.px (some 16) (.build [.slice none 0 0, .slice none 0 0] [(0, 1, .v 11), (1, 1, .v 15)]))) <|
    .st (.act none (.pset none 7 0 2 (.v 16))) .done
@[simp] def W44_8 := @Pl.wpe _ _ K44_8.eq_1
def K44_9 : Pl := .st (.act none (.ex (some 15) (.app 8 1 [.int .i64 0] (.p 0 12) (.o (.v 14))))) K44_8
@[simp] def W44_9 := @Pl.wpe _ _ K44_9.eq_1
def K44_10 : C := .seq (.pl <| .st (.ext 8 9) <|
    .st (.act none (.psl 8 [] [])) <|
    .st (.act none (.als 9 none 4)) <|
    .st (.act none (.pget (some 10) (some 9) 4 0 none)) <|
    .st (.act none (.psl 12 [] [])) <|
    .st (.act none (.als 13 none 4)) <|
    .st (.act none (.pget (some 14) (some 13) 4 1 none)) <|
    .st (.act none (.pnew 7 (.c (.agg #[.slice none 0 0, .slice none 0 0])) [])) <|
    .st (.act none (.ex (some 11) (.app 8 1 [.int .i64 0] (.p 0 8) (.o (.v 10))))) K44_9) K44_7
@[simp] def W44_10 := @C.wpe _ _ K44_10.eq_1
def B_spec_l3Apply : C := .seq (.pl <| .st (.ext 8 0) <|
    .st (.act none (.pnew 3 (.v 0) [])) <|
    .st (.act none (.pnew 4 (.v 1) [])) <|
    .st (.act none (.pnew 5 (.v 2) [])) <|
    .st (.act none (.pnew 6 (.c (.agg #[.slice none 0 0, .slice none 0 0])) [])) .done) K44_10
@[simp] def WB_spec_l3Apply := @C.wpe _ _ B_spec_l3Apply.eq_1
def R_spec_l3Apply : FIR := ⟨B_spec_l3Apply, 8, [(6, some (some 2))]⟩
theorem IR_spec_l3Apply : cfun Tryz.prog H_spec_l3Apply Tryz.f44 = some R_spec_l3Apply := by kernel_rfl
theorem EN_spec_l3Apply {args : List Value} {h : Heap} {k : Value → Heap → Prop} (hargs : args.length = 3) (hw : B_spec_l3Apply.wp Tryz.prog (retQ [(6, some (some 2))] k) (env0 args 8) h) : CallE Tryz.prog fn_spec_l3Apply args h k := enter Tryz.func44 rfl IR_spec_l3Apply hargs hw

def H_spec_l3Partners : Hint := ⟨[(0, false), (1, false), (2, false), (3, false), (4, true), (5, true), (8, false), (9, false), (10, false), (11, false), (12, false)], [[0, 1, 6, 10], [0, 1, 6]]⟩
def K70_1 : C := .seq (.pl <| .st (.ext 11 1) <|
    .st (.act none (.px (some 11) (.mv (.v 7)))) <|
    .st (.act none (.px (some 6) (.mv (.v 11)))) .done) (.ret)
@[simp] def W70_1 := @C.wpe _ _ K70_1.eq_1
def K70_2 : C := .pl <| .st (.ext 11 2) <|
    .st (.act none (.px (some 11) (.mv (.v 9)))) <|
    .st (.act none (.px (some 12) (.bin .add (.v 11) (.c (.int .i64 1))))) <|
    .st (.act none (.px (some 9) (.mv (.v 12)))) .done
@[simp] def W70_2 := @C.wpe _ _ K70_2.eq_1
def K70_3 : C := .pl <| .st (.ext 11 2) <|
    .st (.act none (.px (some 11) (.mv (.v 10)))) <|
    .st (.act none (.px (some 12) (.bin .add (.v 11) (.c (.int .i64 1))))) <|
    .st (.act none (.px (some 10) (.mv (.v 12)))) .done
@[simp] def W70_3 := @C.wpe _ _ K70_3.eq_1
def K70_4 : Pl := .st (.act none (.px (some 7) (.mv (.v 18)))) .done
@[simp] def W70_4 := @Pl.wpe _ _ K70_4.eq_1
def K70_5 : C := .pl <| .st (.ext 11 8) <|
    .st (.act none (.px (some 11) (.mv (.v 7)))) <|
    .st (.act none (.px (some 12) (.mv (.v 2)))) <|
    .st (.act none (.px (some 13) (.mv (.v 3)))) <|
    .st (.act none (.px (some 14) (.mv (.v 9)))) <|
    .st (.act none (.px (some 15) (.mv (.v 10)))) <|
    .st (.act none (.px (some 16) (.build [.int .i64 0, .int .i64 0, .int .i64 0, .int .i64 0] [(0, 1, .v 12), (1, 1, .v 13), (2, 1, .v 14), (3, 1, .v 15)]))) <|
    .st (.act none (.psl 17 [.int .i64 0, .int .i64 0, .int .i64 0, .int .i64 0] [(0, 4, .v 16)])) <|
    .st (.act none (.ex (some 18) (.app 32 4 [.int .i64 0, .int .i64 0, .int .i64 0, .int .i64 0] (.o (.v 11)) (.p 1 17)))) K70_4
@[simp] def W70_5 := @C.wpe _ _ K70_5.eq_1
def K70_6 : C := .cond 11 (.v 35) K70_5 (.skip)
@[simp] def W70_6 := @C.wpe _ _ K70_6.eq_1
def K70_7 : Pl := .st (.act none (.px (some 35) (.pick (.v 29) (.v 34) (.c (.bool false))))) .done
@[simp] def W70_7 := @Pl.wpe _ _ K70_7.eq_1
def K70_8 : C := .seq (.block 3 (.seq (.pl <| .st (.ext 11 25) <|
    .st (.act none (.px (some 11) (.mv (.v 9)))) <|
    .st (.act none (.px (some 12) (.mv (.v 2)))) <|
    .st (.act none (.px (some 13) (.bin .neq (.v 11) (.v 12)))) <|
    .st (.act none (.px (some 14) (.mv (.v 13)))) <|
    .st (.act (some (.v 14, true)) (.als 15 none 4)) <|
    .st (.act (some (.v 14, true)) (.pget (some 16) (some 15) 4 1 none)) <|
    .st (.act (some (.v 14, true)) (.px (some 17) (.mv (.v 9)))) <|
    .st (.act (some (.v 14, true)) (.px (some 18) (.ia 2 (.v 16) (.v 17)))) <|
    .st (.act (some (.v 14, true)) (.px (some 19) (.fa 1 (.v 18)))) <|
    .st (.act (some (.v 14, true)) (.ld (some 20) (.v 19) none)) <|
    .st (.act (some (.v 14, true)) (.px (some 21) (.mv (.v 10)))) <|
    .st (.act (some (.v 14, true)) (.px (some 22) (.ia 10 (.v 20) (.v 21)))) <|
    .st (.act (some (.v 14, true)) (.px (some 23) (.fa 9 (.v 22)))) <|
    .st (.act (some (.v 14, true)) (.ld (some 24) (.v 23) none)) <|
    .st (.act (some (.v 14, true)) (.px (some 25) (.mv (.v 8)))) <|
    .st (.act (some (.v 14, true)) (.px (some 26) (.un .neg (.v 25)))) <|
    .st (.act (some (.v 14, true)) (.px (some 27) (.bin .eql (.v 24) (.v 26)))) <|
    .st (.act none (.px (some 28) (.pick (.v 14) (.v 27) (.c (.bool false))))) <|
    .st (.act none (.px (some 29) (.mv (.v 28)))) <|
    .st (.act (some (.v 29, true)) (.pget (some 30) none 4 0 (some 2))) <|
    .st (.act (some (.v 29, true)) (.pget (some 31) none 5 0 (some 2))) <|
    .st (.act (some (.v 29, true)) (.px (some 32) (.mv (.v 9)))) <|
    .st (.act (some (.v 29, true)) (.px (some 33) (.mv (.v 10)))) <|
    .st (.act (some (.v 29, true)) (.ex (some 34) (.call fn_spec_l3Ready [.v 30, .v 31, .v 32, .v 33]))) K70_7) K70_6)) K70_3
@[simp] def W70_8 := @C.wpe _ _ K70_8.eq_1
def K70_9 : C := .cond 11 (.v 19) (.skip) (.exit 2)
@[simp] def W70_9 := @C.wpe _ _ K70_9.eq_1
def K70_10 : C := .seq (.seq (.pl <| .st (.ext 11 9) <|
    .st (.act none (.px (some 11) (.mv (.v 10)))) <|
    .st (.act none (.als 12 none 4)) <|
    .st (.act none (.pget (some 13) (some 12) 4 1 none)) <|
    .st (.act none (.px (some 14) (.mv (.v 9)))) <|
    .st (.act none (.px (some 15) (.ia 2 (.v 13) (.v 14)))) <|
    .st (.act none (.px (some 16) (.fa 1 (.v 15)))) <|
    .st (.act none (.ld (some 17) (.v 16) none)) <|
    .st (.act none (.px (some 18) (.lenV (.v 17)))) <|
    .st (.act none (.px (some 19) (.bin .lss (.v 11) (.v 18)))) .done) K70_9) K70_8
@[simp] def W70_10 := @C.wpe _ _ K70_10.eq_1
def K70_11 : C := .block 2 (.loop 11 [0, 1, 6] K70_10)
@[simp] def W70_11 := @C.wpe _ _ K70_11.eq_1
def K70_12 : C := .seq (.block 1 (.seq (.pl <| .st (.ext 11 0) <|
    .st (.act none (.px (some 10) (.mv (.c (.int .i64 0))))) .done) K70_11)) K70_2
@[simp] def W70_12 := @C.wpe _ _ K70_12.eq_1
def K70_13 : C := .cond 11 (.v 15) (.skip) (.exit 0)
@[simp] def W70_13 := @C.wpe _ _ K70_13.eq_1
def K70_14 : C := .seq (.seq (.pl <| .st (.ext 11 5) <|
    .st (.act none (.px (some 11) (.mv (.v 9)))) <|
    .st (.act none (.als 12 none 4)) <|
    .st (.act none (.pget (some 13) (some 12) 4 1 none)) <|
    .st (.act none (.px (some 14) (.lenV (.v 13)))) <|
    .st (.act none (.px (some 15) (.bin .lss (.v 11) (.v 14)))) .done) K70_13) K70_12
@[simp] def W70_14 := @C.wpe _ _ K70_14.eq_1
def K70_15 : C := .block 0 (.loop 11 [0, 1, 6, 10] K70_14)
@[simp] def W70_15 := @C.wpe _ _ K70_15.eq_1
def K70_16 : C := .seq (.seq (.pl <| .st (.ext 11 0) <|
    .st (.act none (.px (some 9) (.mv (.c (.int .i64 0))))) .done) K70_15) K70_1
@[simp] def W70_16 := @C.wpe _ _ K70_16.eq_1
def K70_17 : C := .seq (.pl <| .st (.ext 11 10) <|
    .st (.act none (.als 11 none 4)) <|
    .st (.act none (.pget (some 12) (some 11) 4 1 none)) <|
    .st (.act none (.px (some 13) (.mv (.v 2)))) <|
    .st (.act none (.px (some 14) (.ia 2 (.v 12) (.v 13)))) <|
    .st (.act none (.px (some 15) (.fa 1 (.v 14)))) <|
    .st (.act none (.ld (some 16) (.v 15) none)) <|
    .st (.act none (.px (some 17) (.mv (.v 3)))) <|
    .st (.act none (.px (some 18) (.ia 10 (.v 16) (.v 17)))) <|
    .st (.act none (.px (some 19) (.fa 9 (.v 18)))) <|
    .st (.act none (.ld (some 20) (.v 19) none)) <|
    .st (.act none (.px (some 8) (.mv (.v 20)))) .done) K70_16
@[simp] def W70_17 := @C.wpe _ _ K70_17.eq_1
def K70_18 : Pl := .st (.act none (.px (some 7) (.mv (.v 11)))) .done
@[simp] def W70_18 := @Pl.wpe _ _ K70_18.eq_1
def K70_19 : C := .seq (.pl <| .st (.ext 11 1) <|
    .st (.act none (.ex (some 11) (.bls 4 0 [.int .i64 0, .int .i64 0, .int .i64 0, .int .i64 0] []))) K70_18) K70_17
@[simp] def W70_19 := @C.wpe _ _ K70_19.eq_1
def B_spec_l3Partners : C := .seq (.pl <| .st (.ext 11 0) <|
    .st (.act none (.pnew 4 (.v 0) [])) <|
    .st (.act none (.pnew 5 (.v 1) [])) <|
    .st (.act none (.px (some 6) (.mv (.c (.slice none 0 0))))) .done) K70_19
@[simp] def WB_spec_l3Partners := @C.wpe _ _ B_spec_l3Partners.eq_1
def R_spec_l3Partners : FIR := ⟨B_spec_l3Partners, 11, [(6, none)]⟩
theorem IR_spec_l3Partners : cfun Tryz.prog H_spec_l3Partners Tryz.f70 = some R_spec_l3Partners := by kernel_rfl
theorem EN_spec_l3Partners {args : List Value} {h : Heap} {k : Value → Heap → Prop} (hargs : args.length = 4) (hw : B_spec_l3Partners.wp Tryz.prog (retQ [(6, none)] k) (env0 args 11) h) : CallE Tryz.prog fn_spec_l3Partners args h k := enter Tryz.func70 rfl IR_spec_l3Partners hargs hw

def H_spec_l3Ready : Hint := ⟨[(0, false), (1, false), (2, false), (3, false), (4, true), (5, true), (8, false), (9, true)], []⟩
def K69_1 : Pl := .st (.act (some (.v 16, true)) (.px (some 22) (.bin .neq (.v 21) (.c (.int .i64 0))))) <|
    .st (.act none (.px (some 23) (.pick (.v 16) (.v 22) (.c (.bool false))))) <|
    .st (.act none (.px (some 6) (.mv (.v 23)))) .done
@[simp] def W69_1 := @Pl.wpe _ _ K69_1.eq_1
def K69_2 : C := .seq (.pl <| .st (.ext 8 16) <|
    .st (.act none (.als 8 none 7)) <|
    .st (.act none (.pget (some 9) (some 8) 7 0 none)) <|
    .st (.act none (.als 10 none 5)) <|
    .st (.act none (.pget (some 11) (some 10) 5 0 none)) <|
    .st (.act none (.px (some 12) (.mv (.v 2)))) <|
    .st (.act none (.px (some 13) (.ia 1 (.v 11) (.v 12)))) <|
    .st (.act none (.ld (some 14) (.v 13) none)) <|
    .st (.act none (.px (some 15) (.bin .eql (.v 9) (.v 14)))) <|
    .st (.act none (.px (some 16) (.mv (.v 15)))) <|
    .st (.act (some (.v 16, true)) (.als 17 none 7)) <|
    .st (.act (some (.v 16, true)) (.pget (some 18) (some 17) 7 2 (some 3))) <|
    .st (.act (some (.v 16, true)) (.als 19 none 5)) <|
    .st (.act (some (.v 16, true)) (.pget (some 20) (some 19) 5 1 none)) <|
    .st (.act (some (.v 16, true)) (.ex (some 21) (.call fn_spec_l1Eval [.v 18, .v 20]))) K69_1) (.ret)
@[simp] def W69_2 := @C.wpe _ _ K69_2.eq_1
def K69_3 : C := .seq (.pl <| .st (.ext 8 9) <|
    .st (.act none (.als 8 none 4)) <|
    .st (.act none (.pget (some 9) (some 8) 4 1 none)) <|
    .st (.act none (.px (some 10) (.mv (.v 2)))) <|
    .st (.act none (.px (some 11) (.ia 2 (.v 9) (.v 10)))) <|
    .st (.act none (.px (some 12) (.fa 1 (.v 11)))) <|
    .st (.act none (.ld (some 13) (.v 12) none)) <|
    .st (.act none (.px (some 14) (.mv (.v 3)))) <|
    .st (.act none (.px (some 15) (.ia 10 (.v 13) (.v 14)))) <|
    .st (.act none (.ld (some 16) (.v 15) (some 10))) <|
    .st (.act none (.pnew 7 (.c (.agg #[.int .i64 0, .int .i64 0, .int .i64 0, .int .i64 0, .slice none 0 0, .int .i64 0, .int .i64 0, .int .i64 0, .slice none 0 0, .int .i64 0])) [])) <|
    .st (.act none (.pset none 7 0 10 (.v 16))) .done) K69_2
@[simp] def W69_3 := @C.wpe _ _ K69_3.eq_1
def B_spec_l3Ready : C := .seq (.pl <| .st (.ext 8 0) <|
    .st (.act none (.pnew 4 (.v 0) [])) <|
    .st (.act none (.pnew 5 (.v 1) [])) <|
    .st (.act none (.px (some 6) (.mv (.c (.bool false))))) .done) K69_3
@[simp] def WB_spec_l3Ready := @C.wpe _ _ B_spec_l3Ready.eq_1
def R_spec_l3Ready : FIR := ⟨B_spec_l3Ready, 8, [(6, none)]⟩
theorem IR_spec_l3Ready : cfun Tryz.prog H_spec_l3Ready Tryz.f69 = some R_spec_l3Ready := by kernel_rfl
theorem EN_spec_l3Ready {args : List Value} {h : Heap} {k : Value → Heap → Prop} (hargs : args.length = 4) (hw : B_spec_l3Ready.wp Tryz.prog (retQ [(6, none)] k) (env0 args 8) h) : CallE Tryz.prog fn_spec_l3Ready args h k := enter Tryz.func69 rfl IR_spec_l3Ready hargs hw


end Go.Proofs.YthgimpheeemooaaGreat

/-
  Bodies of functions in the small language, as a program printed them, and that each is what the translation gives.
-/
namespace Go.Proofs.YthgimpheeemooaaGreat
open Go
set_option linter.all false
set_option linter.defProp false
set_option maxRecDepth 1000000

end Go.Proofs.YthgimpheeemooaaGreat
