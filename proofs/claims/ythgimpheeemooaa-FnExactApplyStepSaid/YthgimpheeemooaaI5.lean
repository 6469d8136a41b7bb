/-
  Bodies of functions in the small language, as a program printed them, and that each is what the translation gives.
-/
import Derived.Test.YthgimpheeemooaaI1
namespace Go.Proofs.Ythgimpheeemooaa
open Go
set_option linter.all false
set_option linter.defProp false
set_option maxRecDepth 1000000

def H_spec_l3Partners : Hint := ⟨[(0, false), (1, false), (2, false), (3, false), (4, true), (5, true), (8, false), (9, false), (10, false), (11, false), (12, false)], [[0, 1, 6, 10], [0, 1, 6]]⟩
def K174_1 : C := .seq (.pl <| .st (.ext 11 1) <|
    .st (.act none (.px (some 11) (.mv (.v 7)))) <|
    .st (.act none (.px (some 6) (.mv (.v 11)))) .done) (.ret)
@[simp] def W174_1 := @C.wpe _ _ K174_1.eq_1
def K174_2 : C := .pl <| .st (.ext 11 2) <|
    .st (.act none (.px (some 11) (.mv (.v 9)))) <|
    .st (.act none (.px (some 12) (.bin .add (.v 11) (.c (.int .i64 1))))) <|
    .st (.act none (.px (some 9) (.mv (.v 12)))) .done
@[simp] def W174_2 := @C.wpe _ _ K174_2.eq_1
def K174_3 : C := .pl <| .st (.ext 11 2) <|
    .st (.act none (.px (some 11) (.mv (.v 10)))) <|
    .st (.act none (.px (some 12) (.bin .add (.v 11) (.c (.int .i64 1))))) <|
    .st (.act none (.px (some 10) (.mv (.v 12)))) .done
@[simp] def W174_3 := @C.wpe _ _ K174_3.eq_1
def K174_4 : Pl := .st (.act none (.px (some 7) (.mv (.v 18)))) .done
@[simp] def W174_4 := @Pl.wpe _ _ K174_4.eq_1
def K174_5 : C := .pl <| .st (.ext 11 8) <|
    .st (.act none (.px (some 11) (.mv (.v 7)))) <|
    .st (.act none (.px (some 12) (.mv (.v 2)))) <|
    .st (.act none (.px (some 13) (.mv (.v 3)))) <|
    .st (.act none (.px (some 14) (.mv (.v 9)))) <|
    .st (.act none (.px (some 15) (.mv (.v 10)))) <|
    .st (.act none (.px (some 16) (.build [.int .i64 0, .int .i64 0, .int .i64 0, .int .i64 0] [(0, 1, .v 12), (1, 1, .v 13), (2, 1, .v 14), (3, 1, .v 15)]))) <|
    .st (.act none (.psl 17 [.int .i64 0, .int .i64 0, .int .i64 0, .int .i64 0] [(0, 4, .v 16)])) <|
    .st (.act none (.ex (some 18) (.app 32 4 [.int .i64 0, .int .i64 0, .int .i64 0, .int .i64 0] (.o (.v 11)) (.p 1 17)))) K174_4
@[simp] def W174_5 := @C.wpe _ _ K174_5.eq_1
def K174_6 : C := .cond 11 (.v 35) K174_5 (.skip)
@[simp] def W174_6 := @C.wpe _ _ K174_6.eq_1
def K174_7 : Pl := .st (.act none (.px (some 35) (.pick (.v 29) (.v 34) (.c (.bool false))))) .done
@[simp] def W174_7 := @Pl.wpe _ _ K174_7.eq_1
def K174_8 : C := .seq (.block 3 (.seq (.pl <| .st (.ext 11 25) <|
    .st (.act none (.px (some 11) (.mv (.v 9)))) <|
    .st (.act none (.px (some 12) (.mv (.v 2)))) <|
    .st (.act none (.px (some 13) (.bin .neq (.v 11) (.v 12)))) <|
    .st (.act none (.px (some 14) (.mv (.v 13)))) <|
    .st (.act (some (.v 14, true)) (.als 15 none 4)) <|
    .st (.act (some (.v 14, true)) (.pget (some 16) (some 15) 4 1 none)) <|
    .st (.act (some (.v 14, true)) (.px (some 17) (.mv (.v 9)))) <|
    .st (.act (some (.v 14, true)) (.px (some 18) (.ia 2 (.v 16) (.v 17)))) <|
    .st (.act (some (.v 14, true)) (.px (some 19) (.fa 1 (.v 18)))) <|
    .st (.act (some (.v 14, true)) (.ld (some 20) (.v 19) none)) <|
    .st (.act (some (.v 14, true)) (.px (some 21) (.mv (.v 10)))) <|
    .st (.act (some (.v 14, true)) (.px (some 22) (.ia 10 (.v 20) (.v 21)))) <|
    .st (.act (some (.v 14, true)) (.px (some 23) (.fa 9 (.v 22)))) <|
    .st (.act (some (.v 14, true)) (.ld (some 24) (.v 23) none)) <|
    .st (.act (some (.v 14, true)) (.px (some 25) (.mv (.v 8)))) <|
    .st (.act (some (.v 14, true)) (.px (some 26) (.un .neg (.v 25)))) <|
    .st (.act (some (.v 14, true)) (.px (some 27) (.bin .eql (.v 24) (.v 26)))) <|
    .st (.act none (.px (some 28) (.pick (.v 14) (.v 27) (.c (.bool false))))) <|
    .st (.act none (.px (some 29) (.mv (.v 28)))) <|
    .st (.act (some (.v 29, true)) (.pget (some 30) none 4 0 (some 2))) <|
    .st (.act (some (.v 29, true)) (.pget (some 31) none 5 0 (some 2))) <|
    .st (.act (some (.v 29, true)) (.px (some 32) (.mv (.v 9)))) <|
    .st (.act (some (.v 29, true)) (.px (some 33) (.mv (.v 10)))) <|
    .st (.act (some (.v 29, true)) (.ex (some 34) (.call fn_spec_l3Ready [.v 30, .v 31, .v 32, .v 33]))) K174_7) K174_6)) K174_3
@[simp] def W174_8 := @C.wpe _ _ K174_8.eq_1
def K174_9 : C := .cond 11 (.v 19) (.skip) (.exit 2)
@[simp] def W174_9 := @C.wpe _ _ K174_9.eq_1
def K174_10 : C := .seq (.seq (.pl <| .st (.ext 11 9) <|
    .st (.act none (.px (some 11) (.mv (.v 10)))) <|
    .st (.act none (.als 12 none 4)) <|
    .st (.act none (.pget (some 13) (some 12) 4 1 none)) <|
    .st (.act none (.px (some 14) (.mv (.v 9)))) <|
    .st (.act none (.px (some 15) (.ia 2 (.v 13) (.v 14)))) <|
    .st (.act none (.px (some 16) (.fa 1 (.v 15)))) <|
    .st (.act none (.ld (some 17) (.v 16) none)) <|
    .st (.act none (.px (some 18) (.lenV (.v 17)))) <|
    .st (.act none (.px (some 19) (.bin .lss (.v 11) (.v 18)))) .done) K174_9) K174_8
@[simp] def W174_10 := @C.wpe _ _ K174_10.eq_1
def K174_11 : C := .block 2 (.loop 11 [0, 1, 6] K174_10)
@[simp] def W174_11 := @C.wpe _ _ K174_11.eq_1
def K174_12 : C := .seq (.block 1 (.seq (.pl <| .st (.ext 11 0) <|
    .st (.act none (.px (some 10) (.mv (.c (.int .i64 0))))) .done) K174_11)) K174_2
@[simp] def W174_12 := @C.wpe _ _ K174_12.eq_1
def K174_13 : C := .cond 11 (.v 15) (.skip) (.exit 0)
@[simp] def W174_13 := @C.wpe _ _ K174_13.eq_1
def K174_14 : C := .seq (.seq (.pl <| .st (.ext 11 5) <|
    .st (.act none (.px (some 11) (.mv (.v 9)))) <|
    .st (.act none (.als 12 none 4)) <|
    .st (.act none (.pget (some 13) (some 12) 4 1 none)) <|
    .st (.act none (.px (some 14) (.lenV (.v 13)))) <|
    .st (.act none (.px (some 15) (.bin .lss (.v 11) (.v 14)))) .done) K174_13) K174_12
@[simp] def W174_14 := @C.wpe _ _ K174_14.eq_1
def K174_15 : C := .block 0 (.loop 11 [0, 1, 6, 10] K174_14)
@[simp] def W174_15 := @C.wpe _ _ K174_15.eq_1
def K174_16 : C := .seq (.seq (.pl <| .st (.ext 11 0) <|
    .st (.act none (.px (some 9) (.mv (.c (.int .i64 0))))) .done) K174_15) K174_1
@[simp] def W174_16 := @C.wpe _ _ K174_16.eq_1
def K174_17 : C := .seq (.pl <| .st (.ext 11 10) <|
    .st (.act none (.als 11 none 4)) <|
    .st (.act none (.pget (some 12) (some 11) 4 1 none)) <|
    .st (.act none (.px (some 13) (.mv (.v 2)))) <|
    .st (.act none (.px (some 14) (.ia 2 (.v 12) (.v 13)))) <|
    .st (.act none (.px (some 15) (.fa 1 (.v 14)))) <|
    .st (.act none (.ld (some 16) (.v 15) none)) <|
    .st (.act none (.px (some 17) (.mv (.v 3)))) <|
    .st (.act none (.px (some 18) (.ia 10 (.v 16) (.v 17)))) <|
    .st (.act none (.px (some 19) (.fa 9 (.v 18)))) <|
    .st (.act none (.ld (some 20) (.v 19) none)) <|
    .st (.act none (.px (some 8) (.mv (.v 20)))) .done) K174_16
@[simp] def W174_17 := @C.wpe _ _ K174_17.eq_1
def K174_18 : Pl := .st (.act none (.px (some 7) (.mv (.v 11)))) .done
@[simp] def W174_18 := @Pl.wpe _ _ K174_18.eq_1
def K174_19 : C := .seq (.pl <| .st (.ext 11 1) <|
    .st (.act none (.ex (some 11) (.bls 4 0 [.int .i64 0, .int .i64 0, .int .i64 0, .int .i64 0] []))) K174_18) K174_17
@[simp] def W174_19 := @C.wpe _ _ K174_19.eq_1
def B_spec_l3Partners : C := .seq (.pl <| .st (.ext 11 0) <|
    .st (.act none (.pnew 4 (.v 0) [])) <|
    .st (.act none (.pnew 5 (.v 1) [])) <|
    .st (.act none (.px (some 6) (.mv (.c (.slice none 0 0))))) .done) K174_19
@[simp] def WB_spec_l3Partners := @C.wpe _ _ B_spec_l3Partners.eq_1
def R_spec_l3Partners : FIR := ⟨B_spec_l3Partners, 11, [(6, none)]⟩
theorem IR_spec_l3Partners : cfun Try.prog H_spec_l3Partners Try.f174 = some R_spec_l3Partners := by kernel_rfl
theorem EN_spec_l3Partners {args : List Value} {h : Heap} {k : Value → Heap → Prop} (hargs : args.length = 4) (hw : B_spec_l3Partners.wp Try.prog (retQ [(6, none)] k) (env0 args 11) h) : CallE Try.prog fn_spec_l3Partners args h k := enter Try.func174 rfl IR_spec_l3Partners hargs hw

def H_spec_l3Ready : Hint := ⟨[(0, false), (1, false), (2, false), (3, false), (4, true), (5, true), (8, false), (9, true)], []⟩
def K173_1 : Pl := .st (.act (some (.v 16, true)) (.px (some 22) (.bin .neq (.v 21) (.c (.int .i64 0))))) <|
    .st (.act none (.px (some 23) (.pick (.v 16) (.v 22) (.c (.bool false))))) <|
    .st (.act none (.px (some 6) (.mv (.v 23)))) .done
@[simp] def W173_1 := @Pl.wpe _ _ K173_1.eq_1
def K173_2 : C := .seq (.pl <| .st (.ext 8 16) <|
    .st (.act none (.als 8 none 7)) <|
    .st (.act none (.pget (some 9) (some 8) 7 0 none)) <|
    .st (.act none (.als 10 none 5)) <|
    .st (.act none (.pget (some 11) (some 10) 5 0 none)) <|
    .st (.act none (.px (some 12) (.mv (.v 2)))) <|
    .st (.act none (.px (some 13) (.ia 1 (.v 11) (.v 12)))) <|
    .st (.act none (.ld (some 14) (.v 13) none)) <|
    .st (.act none (.px (some 15) (.bin .eql (.v 9) (.v 14)))) <|
    .st (.act none (.px (some 16) (.mv (.v 15)))) <|
    .st (.act (some (.v 16, true)) (.als 17 none 7)) <|
    .st (.act (some (.v 16, true)) (.pget (some 18) (some 17) 7 2 (some 3))) <|
    .st (.act (some (.v 16, true)) (.als 19 none 5)) <|
    .st (.act (some (.v 16, true)) (.pget (some 20) (some 19) 5 1 none)) <|
    .st (.act (some (.v 16, true)) (.ex (some 21) (.call fn_spec_l1Eval [.v 18, .v 20]))) K173_1) (.ret)
@[simp] def W173_2 := @C.wpe _ _ K173_2.eq_1
def K173_3 : C := .seq (.pl <| .st (.ext 8 9) <|
    .st (.act none (.als 8 none 4)) <|
    .st (.act none (.pget (some 9) (some 8) 4 1 none)) <|
    .st (.act none (.px (some 10) (.mv (.v 2)))) <|
    .st (.act none (.px (some 11) (.ia 2 (.v 9) (.v 10)))) <|
    .st (.act none (.px (some 12) (.fa 1 (.v 11)))) <|
    .st (.act none (.ld (some 13) (.v 12) none)) <|
    .st (.act none (.px (some 14) (.mv (.v 3)))) <|
    .st (.act none (.px (some 15) (.ia 10 (.v 13) (.v 14)))) <|
    .st (.act none (.ld (some 16) (.v 15) (some 10))) <|
    .st (.act none (.pnew 7 (.c (.agg #[.int .i64 0, .int .i64 0, .int .i64 0, .int .i64 0, .slice none 0 0, .int .i64 0, .int .i64 0, .int .i64 0, .slice none 0 0, .int .i64 0])) [])) <|
    .st (.act none (.pset none 7 0 10 (.v 16))) .done) K173_2
@[simp] def W173_3 := @C.wpe _ _ K173_3.eq_1
def B_spec_l3Ready : C := .seq (.pl <| .st (.ext 8 0) <|
    .st (.act none (.pnew 4 (.v 0) [])) <|
    .st (.act none (.pnew 5 (.v 1) [])) <|
    .st (.act none (.px (some 6) (.mv (.c (.bool false))))) .done) K173_3
@[simp] def WB_spec_l3Ready := @C.wpe _ _ B_spec_l3Ready.eq_1
def R_spec_l3Ready : FIR := ⟨B_spec_l3Ready, 8, [(6, none)]⟩
theorem IR_spec_l3Ready : cfun Try.prog H_spec_l3Ready Try.f173 = some R_spec_l3Ready := by kernel_rfl
theorem EN_spec_l3Ready {args : List Value} {h : Heap} {k : Value → Heap → Prop} (hargs : args.length = 4) (hw : B_spec_l3Ready.wp Try.prog (retQ [(6, none)] k) (env0 args 8) h) : CallE Try.prog fn_spec_l3Ready args h k := enter Try.func173 rfl IR_spec_l3Ready hargs hw

def H_spec_l3Steps : Hint := ⟨[(0, false), (1, false), (2, true), (3, true), (4, false), (5, false), (6, false), (7, false), (8, false)], [[0, 1, 4, 7, 8], [0, 1, 4, 8]]⟩
def K137_1 : C := .seq (.pl <| .st (.ext 9 1) <|
    .st (.act none (.px (some 9) (.mv (.v 5)))) <|
    .st (.act none (.px (some 4) (.mv (.v 9)))) .done) (.ret)
@[simp] def W137_1 := @C.wpe _ _ K137_1.eq_1
def K137_2 : C := .pl <| .st (.ext 9 2) <|
    .st (.act none (.px (some 9) (.mv (.v 6)))) <|
    .st (.act none (.px (some 10) (.bin .add (.v 9) (.c (.int .i64 1))))) <|
    .st (.act none (.px (some 6) (.mv (.v 10)))) .done
@[simp] def W137_2 := @C.wpe _ _ K137_2.eq_1
def K137_3 : C := .pl <| .st (.ext 9 2) <|
    .st (.act none (.px (some 9) (.mv (.v 7)))) <|
    .st (.act none (.px (some 10) (.bin .add (.v 9) (.c (.int .i64 1))))) <|
    .st (.act none (.px (some 7) (.mv (.v 10)))) .done
@[simp] def W137_3 := @C.wpe _ _ K137_3.eq_1
def K137_4 : Pl := .st (.act none (.px (some 5) (.mv (.v 14)))) .done
@[simp] def W137_4 := @Pl.wpe _ _ K137_4.eq_1
def K137_5 : C := .pl <| .st (.ext 9 6) <|
    .st (.act none (.px (some 9) (.mv (.v 5)))) <|
    .st (.act none (.px (some 10) (.mv (.v 6)))) <|
    .st (.act none (.px (some 11) (.mv (.v 7)))) <|
    .st (.act none (.px (some 12) (.build [.int .i64 0, .int .i64 0, .int .i64 0, .int .i64 0] [(0, 1, .v 10), (1, 1, .v 11), (2, 1, .c (.int .i64 (-1))), (3, 1, .c (.int .i64 (-1)))]))) <|
    .st (.act none (.psl 13 [.int .i64 0, .int .i64 0, .int .i64 0, .int .i64 0] [(0, 4, .v 12)])) <|
    .st (.act none (.ex (some 14) (.app 32 4 [.int .i64 0, .int .i64 0, .int .i64 0, .int .i64 0] (.o (.v 9)) (.p 1 13)))) K137_4
@[simp] def W137_5 := @C.wpe _ _ K137_5.eq_1
def K137_6 : Pl := .st (.act none (.px (some 5) (.mv (.v 15)))) .done
@[simp] def W137_6 := @Pl.wpe _ _ K137_6.eq_1
def K137_7 : Pl := .st (.act none (.ex (some 15) (.app 32 4 [.int .i64 0, .int .i64 0, .int .i64 0, .int .i64 0] (.o (.v 9)) (.o (.v 14))))) K137_6
@[simp] def W137_7 := @Pl.wpe _ _ K137_7.eq_1
def K137_8 : C := .pl <| .st (.ext 9 7) <|
    .st (.act none (.px (some 9) (.mv (.v 5)))) <|
    .st (.act none (.pget (some 10) none 2 0 (some 2))) <|
    .st (.act none (.pget (some 11) none 3 0 (some 2))) <|
    .st (.act none (.px (some 12) (.mv (.v 6)))) <|
    .st (.act none (.px (some 13) (.mv (.v 7)))) <|
    .st (.act none (.ex (some 14) (.call fn_spec_l3Partners [.v 10, .v 11, .v 12, .v 13]))) K137_7
@[simp] def W137_8 := @C.wpe _ _ K137_8.eq_1
def K137_9 : C := .cond 9 (.v 10) K137_5 K137_8
@[simp] def W137_9 := @C.wpe _ _ K137_9.eq_1
def K137_10 : C := .seq (.pl <| .st (.ext 9 2) <|
    .st (.act none (.px (some 9) (.mv (.v 8)))) <|
    .st (.act none (.px (some 10) (.bin .eql (.v 9) (.c (.int .i64 0))))) .done) K137_9
@[simp] def W137_10 := @C.wpe _ _ K137_10.eq_1
def K137_11 : C := .cond 9 (.v 18) (.exit 3) (.skip)
@[simp] def W137_11 := @C.wpe _ _ K137_11.eq_1
def K137_12 : Pl := .st (.act (some (.v 11, false)) (.px (some 17) (.un .not (.v 16)))) <|
    .st (.act none (.px (some 18) (.pick (.v 11) (.c (.bool true)) (.v 17)))) .done
@[simp] def W137_12 := @Pl.wpe _ _ K137_12.eq_1
def K137_13 : C := .seq (.seq (.pl <| .st (.ext 9 10) <|
    .st (.act none (.px (some 9) (.mv (.v 8)))) <|
    .st (.act none (.px (some 10) (.bin .lss (.v 9) (.c (.int .i64 0))))) <|
    .st (.act none (.px (some 11) (.mv (.v 10)))) <|
    .st (.act (some (.v 11, false)) (.pget (some 12) none 2 0 (some 2))) <|
    .st (.act (some (.v 11, false)) (.pget (some 13) none 3 0 (some 2))) <|
    .st (.act (some (.v 11, false)) (.px (some 14) (.mv (.v 6)))) <|
    .st (.act (some (.v 11, false)) (.px (some 15) (.mv (.v 7)))) <|
    .st (.act (some (.v 11, false)) (.ex (some 16) (.call fn_spec_l3Ready [.v 12, .v 13, .v 14, .v 15]))) K137_12) K137_11) K137_10
@[simp] def W137_13 := @C.wpe _ _ K137_13.eq_1
def K137_14 : C := .seq (.block 3 (.seq (.pl <| .st (.ext 9 10) <|
    .st (.act none (.als 9 none 2)) <|
    .st (.act none (.pget (some 10) (some 9) 2 1 none)) <|
    .st (.act none (.px (some 11) (.mv (.v 6)))) <|
    .st (.act none (.px (some 12) (.ia 2 (.v 10) (.v 11)))) <|
    .st (.act none (.px (some 13) (.fa 1 (.v 12)))) <|
    .st (.act none (.ld (some 14) (.v 13) none)) <|
    .st (.act none (.px (some 15) (.mv (.v 7)))) <|
    .st (.act none (.px (some 16) (.ia 10 (.v 14) (.v 15)))) <|
    .st (.act none (.px (some 17) (.fa 9 (.v 16)))) <|
    .st (.act none (.ld (some 18) (.v 17) none)) <|
    .st (.act none (.px (some 8) (.mv (.v 18)))) .done) K137_13)) K137_3
@[simp] def W137_14 := @C.wpe _ _ K137_14.eq_1
def K137_15 : C := .cond 9 (.v 17) (.skip) (.exit 2)
@[simp] def W137_15 := @C.wpe _ _ K137_15.eq_1
def K137_16 : C := .seq (.seq (.pl <| .st (.ext 9 9) <|
    .st (.act none (.px (some 9) (.mv (.v 7)))) <|
    .st (.act none (.als 10 none 2)) <|
    .st (.act none (.pget (some 11) (some 10) 2 1 none)) <|
    .st (.act none (.px (some 12) (.mv (.v 6)))) <|
    .st (.act none (.px (some 13) (.ia 2 (.v 11) (.v 12)))) <|
    .st (.act none (.px (some 14) (.fa 1 (.v 13)))) <|
    .st (.act none (.ld (some 15) (.v 14) none)) <|
    .st (.act none (.px (some 16) (.lenV (.v 15)))) <|
    .st (.act none (.px (some 17) (.bin .lss (.v 9) (.v 16)))) .done) K137_15) K137_14
@[simp] def W137_16 := @C.wpe _ _ K137_16.eq_1
def K137_17 : C := .block 2 (.loop 9 [0, 1, 4, 8] K137_16)
@[simp] def W137_17 := @C.wpe _ _ K137_17.eq_1
def K137_18 : C := .seq (.block 1 (.seq (.pl <| .st (.ext 9 0) <|
    .st (.act none (.px (some 7) (.mv (.c (.int .i64 0))))) .done) K137_17)) K137_2
@[simp] def W137_18 := @C.wpe _ _ K137_18.eq_1
def K137_19 : C := .cond 9 (.v 13) (.skip) (.exit 0)
@[simp] def W137_19 := @C.wpe _ _ K137_19.eq_1
def K137_20 : C := .seq (.seq (.pl <| .st (.ext 9 5) <|
    .st (.act none (.px (some 9) (.mv (.v 6)))) <|
    .st (.act none (.als 10 none 2)) <|
    .st (.act none (.pget (some 11) (some 10) 2 1 none)) <|
    .st (.act none (.px (some 12) (.lenV (.v 11)))) <|
    .st (.act none (.px (some 13) (.bin .lss (.v 9) (.v 12)))) .done) K137_19) K137_18
@[simp] def W137_20 := @C.wpe _ _ K137_20.eq_1
def K137_21 : C := .block 0 (.loop 9 [0, 1, 4, 7, 8] K137_20)
@[simp] def W137_21 := @C.wpe _ _ K137_21.eq_1
def K137_22 : C := .seq (.seq (.pl <| .st (.ext 9 0) <|
    .st (.act none (.px (some 6) (.mv (.c (.int .i64 0))))) .done) K137_21) K137_1
@[simp] def W137_22 := @C.wpe _ _ K137_22.eq_1
def K137_23 : Pl := .st (.act none (.px (some 5) (.mv (.v 9)))) .done
@[simp] def W137_23 := @Pl.wpe _ _ K137_23.eq_1
def K137_24 : C := .seq (.pl <| .st (.ext 9 1) <|
    .st (.act none (.ex (some 9) (.bls 4 0 [.int .i64 0, .int .i64 0, .int .i64 0, .int .i64 0] []))) K137_23) K137_22
@[simp] def W137_24 := @C.wpe _ _ K137_24.eq_1
def B_spec_l3Steps : C := .seq (.pl <| .st (.ext 9 0) <|
    .st (.act none (.pnew 2 (.v 0) [])) <|
    .st (.act none (.pnew 3 (.v 1) [])) <|
    .st (.act none (.px (some 4) (.mv (.c (.slice none 0 0))))) .done) K137_24
@[simp] def WB_spec_l3Steps := @C.wpe _ _ B_spec_l3Steps.eq_1
def R_spec_l3Steps : FIR := ⟨B_spec_l3Steps, 9, [(4, none)]⟩
theorem IR_spec_l3Steps : cfun Try.prog H_spec_l3Steps Try.f137 = some R_spec_l3Steps := by kernel_rfl
theorem EN_spec_l3Steps {args : List Value} {h : Heap} {k : Value → Heap → Prop} (hargs : args.length = 2) (hw : B_spec_l3Steps.wp Try.prog (retQ [(4, none)] k) (env0 args 9) h) : CallE Try.prog fn_spec_l3Steps args h k := enter Try.func137 rfl IR_spec_l3Steps hargs hw

def H_spec_l3Take : Hint := ⟨[(0, false), (1, false), (2, false), (3, true), (5, true), (6, true)], []⟩
def K138_1 : C := .seq (.pl <| .st (.ext 6 1) <|
    .st (.act none (.pget (some 6) none 3 0 (some 2))) <|
    .st (.act none (.pset none 5 0 2 (.v 6))) .done) (.ret)
@[simp] def W138_1 := @C.wpe _ _ K138_1.eq_1
def K138_2 : Pl := .st (.act none (.px (some 15) (.ia 1 (.v 7) (.v 9)))) <|
    .st (.act none (.ex none (.store 1 (.v 15) (.v 14)))) .done
@[simp] def W138_2 := @Pl.wpe _ _ K138_2.eq_1
def K138_3 : C := .pl <| .st (.ext 6 10) <|
    .st (.act none (.als 6 none 3)) <|
    .st (.act none (.pget (some 7) (some 6) 3 1 none)) <|
    .st (.act none (.als 8 none 4)) <|
    .st (.act none (.pget (some 9) (some 8) 4 5 none)) <|
    .st (.act none (.als 10 none 4)) <|
    .st (.act none (.pget (some 11) (some 10) 4 6 (some 3))) <|
    .st (.act none (.als 12 none 3)) <|
    .st (.act none (.pget (some 13) (some 12) 3 1 none)) <|
    .st (.act none (.ex (some 14) (.call fn_spec_l1Eval [.v 11, .v 13]))) K138_2
@[simp] def W138_3 := @C.wpe _ _ K138_3.eq_1
def K138_4 : C := .cond 6 (.v 8) K138_3 (.skip)
@[simp] def W138_4 := @C.wpe _ _ K138_4.eq_1
def K138_5 : C := .seq (.seq (.pl <| .st (.ext 6 3) <|
    .st (.act none (.als 6 none 4)) <|
    .st (.act none (.pget (some 7) (some 6) 4 5 none)) <|
    .st (.act none (.px (some 8) (.bin .geq (.v 7) (.c (.int .i64 0))))) .done) K138_4) K138_1
@[simp] def W138_5 := @C.wpe _ _ K138_5.eq_1
def K138_6 : C := .seq (.pl <| .st (.ext 6 6) <|
    .st (.act none (.als 6 none 3)) <|
    .st (.act none (.pget (some 7) (some 6) 3 0 none)) <|
    .st (.act none (.px (some 8) (.mv (.v 1)))) <|
    .st (.act none (.als 9 none 4)) <|
    .st (.act none (.pget (some 10) (some 9) 4 1 none)) <|
    .st (.act none (.px (some 11) (.ia 1 (.v 7) (.v 8)))) <|
    .st (.act none (.ex none (.store 1 (.v 11) (.v 10)))) .done) K138_5
@[simp] def W138_6 := @C.wpe _ _ K138_6.eq_1
def B_spec_l3Take : C := .seq (.pl <| .st (.ext 6 0) <|
    .st (.act none (.pnew 3 (.v 0) [])) <|
    .st (.act none (.pnew 4 (.v 2) [])) <|
    .st (.act none (.pnew 5 (.c (.agg #[.slice none 0 0, .slice none 0 0])) [])) .done) K138_6
@[simp] def WB_spec_l3Take := @C.wpe _ _ B_spec_l3Take.eq_1
def R_spec_l3Take : FIR := ⟨B_spec_l3Take, 6, [(5, some (some 2))]⟩
theorem IR_spec_l3Take : cfun Try.prog H_spec_l3Take Try.f138 = some R_spec_l3Take := by kernel_rfl
theorem EN_spec_l3Take {args : List Value} {h : Heap} {k : Value → Heap → Prop} (hargs : args.length = 3) (hw : B_spec_l3Take.wp Try.prog (retQ [(5, some (some 2))] k) (env0 args 6) h) : CallE Try.prog fn_spec_l3Take args h k := enter Try.func138 rfl IR_spec_l3Take hargs hw


end Go.Proofs.Ythgimpheeemooaa
