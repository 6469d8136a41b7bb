/-
  Bodies of functions in the small language, as a program printed them, and that each is what the translation gives.
-/
import Derived.Test.YthgimpheeemooaaGreatI1
namespace Go.Proofs.YthgimpheeemooaaGreat
open Go
set_option linter.all false
set_option linter.defProp false
set_option maxRecDepth 1000000

def H_impl_CheckDeadlock : Hint := ⟨[(0, false), (1, false), (2, false), (3, false)], []⟩
def K31_1 : Pl := .st (.act none (.px (some 7) (.extract 0 (.v 6)))) <|
    .st (.act none (.px (some 8) (.extract 1 (.v 6)))) <|
    .st (.act none (.px (some 2) (.mv (.v 7)))) <|
    .st (.act none (.px (some 3) (.mv (.v 8)))) .done
@[simp] def W31_1 := @Pl.wpe _ _ K31_1.eq_1
def K31_2 : C := .seq (.pl <| .st (.ext 4 5) <|
    .st (.act none (.ld (some 4) (.v 1) (some 2))) <|
    .st (.act none (.px (some 5) (.mkf (.func fn_impl_CheckDeadlock_1) [] [.v 1]))) <|
    .st (.act none (.ex (some 6) (.call fn_impl_check [.v 4, .c (.bool true), .v 5]))) K31_1) (.ret)
@[simp] def W31_2 := @C.wpe _ _ K31_2.eq_1
def K31_3 : Pl := .st (.act none (.px (some 2) (.mv (.c (.int .i64 0))))) <|
    .st (.act none (.px (some 3) (.mv (.c (.slice none 0 0))))) .done
@[simp] def W31_3 := @Pl.wpe _ _ K31_3.eq_1
def B_impl_CheckDeadlock : C := .seq (.pl <| .st (.ext 4 0) <|
    .st (.act none (.ex (some 1) (.alloc (.v 0)))) K31_3) K31_2
@[simp] def WB_impl_CheckDeadlock := @C.wpe _ _ B_impl_CheckDeadlock.eq_1
def R_impl_CheckDeadlock : FIR := ⟨B_impl_CheckDeadlock, 4, [(2, none), (3, none)]⟩
theorem IR_impl_CheckDeadlock : cfun Tryz.prog H_impl_CheckDeadlock Tryz.f31 = some R_impl_CheckDeadlock := by kernel_rfl
theorem EN_impl_CheckDeadlock {args : List Value} {h : Heap} {k : Value → Heap → Prop} (hargs : args.length = 1) (hw : B_impl_CheckDeadlock.wp Tryz.prog (retQ [(2, none), (3, none)] k) (env0 args 4) h) : CallE Tryz.prog fn_impl_CheckDeadlock args h k := enter Tryz.func31 rfl IR_impl_CheckDeadlock hargs hw

def H_impl_CheckDeadlock_1 : Hint := ⟨[(0, false), (1, false), (2, true), (3, false)], []⟩
def K67_1 : Pl := .st (.act none (.px (some 7) (.lenV (.v 6)))) <|
    .st (.act none (.px (some 8) (.bin .eql (.v 7) (.c (.int .i64 0))))) <|
    .st (.act none (.px (some 3) (.mv (.v 8)))) .done
@[simp] def W67_1 := @Pl.wpe _ _ K67_1.eq_1
def K67_2 : C := .seq (.pl <| .st (.ext 4 5) <|
    .st (.act none (.ld (some 4) (.v 1) (some 2))) <|
    .st (.act none (.pget (some 5) none 2 0 (some 2))) <|
    .st (.act none (.ex (some 6) (.call fn_impl_System_enabled [.v 4, .v 5]))) K67_1) (.ret)
@[simp] def W67_2 := @C.wpe _ _ K67_2.eq_1
def B_impl_CheckDeadlock_1 : C := .seq (.pl <| .st (.ext 4 0) <|
    .st (.act none (.pnew 2 (.v 0) [])) <|
    .st (.act none (.px (some 3) (.mv (.c (.bool false))))) .done) K67_2
@[simp] def WB_impl_CheckDeadlock_1 := @C.wpe _ _ B_impl_CheckDeadlock_1.eq_1
def R_impl_CheckDeadlock_1 : FIR := ⟨B_impl_CheckDeadlock_1, 4, [(3, none)]⟩
theorem IR_impl_CheckDeadlock_1 : cfun Tryz.prog H_impl_CheckDeadlock_1 Tryz.f67 = some R_impl_CheckDeadlock_1 := by kernel_rfl
theorem EN_impl_CheckDeadlock_1 {args : List Value} {h : Heap} {k : Value → Heap → Prop} (hargs : args.length = 2) (hw : B_impl_CheckDeadlock_1.wp Tryz.prog (retQ [(3, none)] k) (env0 args 4) h) : CallE Tryz.prog fn_impl_CheckDeadlock_1 args h k := enter Tryz.func67 rfl IR_impl_CheckDeadlock_1 hargs hw

def H_laws_FnExactCheckDeadlock : Hint := ⟨[(0, false), (1, true), (2, false), (3, false), (4, false), (5, false), (6, true), (7, false), (8, false), (9, false), (10, false), (11, false), (12, false), (13, false)], []⟩
def K6_1 : C := .seq (.pl <| .st (.ext 14 0) <|
    .st (.act none (.px (some 2) (.mv (.c (.bool true))))) .done) (.ret)
@[simp] def W6_1 := @C.wpe _ _ K6_1.eq_1
def K6_2 : C := .seq (.pl <| .st (.ext 14 0) <|
    .st (.act none (.px (some 2) (.mv (.c (.bool false))))) .done) (.ret)
@[simp] def W6_2 := @C.wpe _ _ K6_2.eq_1
def K6_3 : C := .cond 14 (.v 16) K6_2 (.skip)
@[simp] def W6_3 := @C.wpe _ _ K6_3.eq_1
def K6_4 : C := .seq (.seq (.pl <| .st (.ext 14 3) <|
    .st (.act none (.px (some 14) (.mv (.v 11)))) <|
    .st (.act none (.px (some 15) (.mv (.v 10)))) <|
    .st (.act none (.px (some 16) (.bin .neq (.v 14) (.v 15)))) .done) K6_3) K6_1
@[simp] def W6_4 := @C.wpe _ _ K6_4.eq_1
def K6_5 : C := .seq (.pl <| .st (.ext 14 0) <|
    .st (.act none (.px (some 2) (.mv (.c (.bool false))))) .done) (.ret)
@[simp] def W6_5 := @C.wpe _ _ K6_5.eq_1
def K6_6 : C := .cond 14 (.v 15) K6_5 (.skip)
@[simp] def W6_6 := @C.wpe _ _ K6_6.eq_1
def K6_7 : C := .seq (.seq (.pl <| .st (.ext 14 2) <|
    .st (.act none (.px (some 14) (.mv (.v 11)))) <|
    .st (.act none (.px (some 15) (.bin .lss (.v 14) (.c (.int .i64 0))))) .done) K6_6) K6_4
@[simp] def W6_7 := @C.wpe _ _ K6_7.eq_1
def K6_8 : Pl := .st (.act none (.px (some 11) (.mv (.v 16)))) .done
@[simp] def W6_8 := @Pl.wpe _ _ K6_8.eq_1
def K6_9 : C := .seq (.pl <| .st (.ext 14 3) <|
    .st (.act none (.px (some 14) (.mv (.v 8)))) <|
    .st (.act none (.px (some 15) (.mv (.v 11)))) <|
    .st (.act none (.ex (some 16) (.call fn_laws_heldStateS [.v 14, .v 15]))) K6_8) K6_7
@[simp] def W6_9 := @C.wpe _ _ K6_9.eq_1
def K6_10 : C := .seq (.pl <| .st (.ext 14 0) <|
    .st (.act none (.px (some 11) (.mv (.c (.int .i64 1))))) .done) K6_9
@[simp] def W6_10 := @C.wpe _ _ K6_10.eq_1
def K6_11 : C := .seq (.pl <| .st (.ext 14 0) <|
    .st (.act none (.px (some 2) (.mv (.c (.bool false))))) .done) (.ret)
@[simp] def W6_11 := @C.wpe _ _ K6_11.eq_1
def K6_12 : C := .cond 14 (.v 22) K6_11 (.skip)
@[simp] def W6_12 := @C.wpe _ _ K6_12.eq_1
def K6_13 : Pl := .st (.act (some (.v 17, false)) (.px (some 21) (.un .not (.v 20)))) <|
    .st (.act none (.px (some 22) (.pick (.v 17) (.c (.bool true)) (.v 21)))) .done
@[simp] def W6_13 := @Pl.wpe _ _ K6_13.eq_1
def K6_14 : C := .seq (.seq (.pl <| .st (.ext 14 9) <|
    .st (.act none (.px (some 14) (.mv (.v 12)))) <|
    .st (.act none (.px (some 15) (.mv (.v 4)))) <|
    .st (.act none (.px (some 16) (.bin .neq (.v 14) (.v 15)))) <|
    .st (.act none (.px (some 17) (.mv (.v 16)))) <|
    .st (.act (some (.v 17, false)) (.px (some 18) (.mv (.v 13)))) <|
    .st (.act (some (.v 17, false)) (.px (some 19) (.mv (.v 5)))) <|
    .st (.act (some (.v 17, false)) (.ex (some 20) (.call fn_laws_eqStateS [.v 18, .v 19]))) K6_13) K6_12) K6_10
@[simp] def W6_14 := @C.wpe _ _ K6_14.eq_1
def K6_15 : Pl := .st (.act none (.px (some 17) (.mv (.v 16)))) <|
    .st (.act none (.px (some 18) (.extract 0 (.v 17)))) <|
    .st (.act none (.px (some 19) (.extract 1 (.v 17)))) <|
    .st (.act none (.px (some 12) (.mv (.v 18)))) <|
    .st (.act none (.px (some 13) (.mv (.v 19)))) .done
@[simp] def W6_15 := @Pl.wpe _ _ K6_15.eq_1
def K6_16 : Pl := .st (.act none (.ex (some 16) (.call fn_impl_CheckDeadlock [.v 15]))) K6_15
@[simp] def W6_16 := @Pl.wpe _ _ K6_16.eq_1
def K6_17 : C := .seq (.pl <| .st (.ext 14 6) <|
    .st (.act none (.pget (some 14) none 1 0 (some 2))) <|
    .st (.act none (.ex (some 15) (.call fn_laws_toSystem [.v 14]))) K6_16) K6_14
@[simp] def W6_17 := @C.wpe _ _ K6_17.eq_1
def K6_18 : C := .seq (.pl <| .st (.ext 14 0) <|
    .st (.act none (.px (some 2) (.mv (.c (.bool false))))) .done) (.ret)
@[simp] def W6_18 := @C.wpe _ _ K6_18.eq_1
def K6_19 : C := .cond 14 (.v 16) K6_18 (.skip)
@[simp] def W6_19 := @C.wpe _ _ K6_19.eq_1
def K6_20 : C := .seq (.seq (.pl <| .st (.ext 14 3) <|
    .st (.act none (.px (some 14) (.mv (.v 11)))) <|
    .st (.act none (.px (some 15) (.mv (.v 10)))) <|
    .st (.act none (.px (some 16) (.bin .neq (.v 14) (.v 15)))) .done) K6_19) K6_17
@[simp] def W6_20 := @C.wpe _ _ K6_20.eq_1
def K6_21 : C := .seq (.pl <| .st (.ext 14 0) <|
    .st (.act none (.px (some 2) (.mv (.c (.bool false))))) .done) (.ret)
@[simp] def W6_21 := @C.wpe _ _ K6_21.eq_1
def K6_22 : C := .cond 14 (.v 15) K6_21 (.skip)
@[simp] def W6_22 := @C.wpe _ _ K6_22.eq_1
def K6_23 : C := .seq (.seq (.pl <| .st (.ext 14 2) <|
    .st (.act none (.px (some 14) (.mv (.v 11)))) <|
    .st (.act none (.px (some 15) (.bin .lss (.v 14) (.c (.int .i64 0))))) .done) K6_22) K6_20
@[simp] def W6_23 := @C.wpe _ _ K6_23.eq_1
def K6_24 : Pl := .st (.act none (.px (some 11) (.mv (.v 16)))) .done
@[simp] def W6_24 := @Pl.wpe _ _ K6_24.eq_1
def K6_25 : C := .seq (.pl <| .st (.ext 14 3) <|
    .st (.act none (.px (some 14) (.mv (.v 8)))) <|
    .st (.act none (.px (some 15) (.mv (.v 11)))) <|
    .st (.act none (.ex (some 16) (.call fn_laws_heldStateS [.v 14, .v 15]))) K6_24) K6_23
@[simp] def W6_25 := @C.wpe _ _ K6_25.eq_1
def K6_26 : C := .seq (.pl <| .st (.ext 14 0) <|
    .st (.act none (.px (some 11) (.mv (.c (.int .i64 1))))) .done) K6_25
@[simp] def W6_26 := @C.wpe _ _ K6_26.eq_1
def K6_27 : Pl := .st (.act none (.px (some 10) (.mv (.v 16)))) .done
@[simp] def W6_27 := @Pl.wpe _ _ K6_27.eq_1
def K6_28 : C := .seq (.pl <| .st (.ext 14 3) <|
    .st (.act none (.px (some 14) (.mv (.v 8)))) <|
    .st (.act none (.px (some 15) (.mv (.v 10)))) <|
    .st (.act none (.ex (some 16) (.call fn_laws_markStateS [.v 14, .v 15]))) K6_27) K6_26
@[simp] def W6_28 := @C.wpe _ _ K6_28.eq_1
def K6_29 : C := .seq (.pl <| .st (.ext 14 0) <|
    .st (.act none (.px (some 10) (.mv (.c (.int .i64 1))))) .done) K6_28
@[simp] def W6_29 := @C.wpe _ _ K6_29.eq_1
def K6_30 : C := .seq (.pl <| .st (.ext 14 0) <|
    .st (.act none (.px (some 2) (.mv (.c (.bool false))))) .done) (.ret)
@[simp] def W6_30 := @C.wpe _ _ K6_30.eq_1
def K6_31 : C := .cond 14 (.v 26) K6_30 (.skip)
@[simp] def W6_31 := @C.wpe _ _ K6_31.eq_1
def K6_32 : Pl := .st (.act (some (.v 21, false)) (.px (some 25) (.un .not (.v 24)))) <|
    .st (.act none (.px (some 26) (.pick (.v 21) (.c (.bool true)) (.v 25)))) .done
@[simp] def W6_32 := @Pl.wpe _ _ K6_32.eq_1
def K6_33 : C := .seq (.seq (.pl <| .st (.ext 14 13) <|
    .st (.act none (.px (some 14) (.mv (.v 9)))) <|
    .st (.act none (.px (some 15) (.bin .lss (.v 14) (.c (.int .i64 0))))) <|
    .st (.act none (.px (some 16) (.mv (.v 15)))) <|
    .st (.act (some (.v 16, false)) (.px (some 17) (.mv (.v 7)))) <|
    .st (.act (some (.v 16, false)) (.px (some 18) (.mv (.v 4)))) <|
    .st (.act (some (.v 16, false)) (.px (some 19) (.bin .neq (.v 17) (.v 18)))) <|
    .st (.act none (.px (some 20) (.pick (.v 16) (.c (.bool true)) (.v 19)))) <|
    .st (.act none (.px (some 21) (.mv (.v 20)))) <|
    .st (.act (some (.v 21, false)) (.px (some 22) (.mv (.v 8)))) <|
    .st (.act (some (.v 21, false)) (.px (some 23) (.mv (.v 5)))) <|
    .st (.act (some (.v 21, false)) (.ex (some 24) (.call fn_laws_eqStateS [.v 22, .v 23]))) K6_32) K6_31) K6_29
@[simp] def W6_33 := @C.wpe _ _ K6_33.eq_1
def K6_34 : Pl := .st (.act none (.px (some 9) (.mv (.v 16)))) .done
@[simp] def W6_34 := @Pl.wpe _ _ K6_34.eq_1
def K6_35 : C := .seq (.pl <| .st (.ext 14 3) <|
    .st (.act none (.pget (some 14) none 6 0 (some 2))) <|
    .st (.act none (.px (some 15) (.mv (.v 9)))) <|
    .st (.act none (.ex (some 16) (.call fn_laws_markSystem [.v 14, .v 15]))) K6_34) K6_33
@[simp] def W6_35 := @C.wpe _ _ K6_35.eq_1
def K6_36 : C := .seq (.pl <| .st (.ext 14 0) <|
    .st (.act none (.px (some 9) (.mv (.c (.int .i64 1))))) .done) K6_35
@[simp] def W6_36 := @C.wpe _ _ K6_36.eq_1
def K6_37 : C := .seq (.pl <| .st (.ext 14 0) <|
    .st (.act none (.px (some 2) (.mv (.c (.bool false))))) .done) (.ret)
@[simp] def W6_37 := @C.wpe _ _ K6_37.eq_1
def K6_38 : C := .cond 14 (.v 18) K6_37 (.skip)
@[simp] def W6_38 := @C.wpe _ _ K6_38.eq_1
def K6_39 : Pl := .st (.act none (.px (some 18) (.un .not (.v 17)))) .done
@[simp] def W6_39 := @Pl.wpe _ _ K6_39.eq_1
def K6_40 : Pl := .st (.act none (.ex (some 17) (.call fn_laws_eqSystem [.v 14, .v 16]))) K6_39
@[simp] def W6_40 := @Pl.wpe _ _ K6_40.eq_1
def K6_41 : C := .seq (.seq (.pl <| .st (.ext 14 5) <|
    .st (.act none (.pget (some 14) none 6 0 (some 2))) <|
    .st (.act none (.pget (some 15) none 1 0 (some 2))) <|
    .st (.act none (.ex (some 16) (.call fn_laws_toSystem [.v 15]))) K6_40) K6_38) K6_36
@[simp] def W6_41 := @C.wpe _ _ K6_41.eq_1
def K6_42 : C := .seq (.pl <| .st (.ext 14 0) <|
    .st (.act none (.px (some 2) (.mv (.c (.bool false))))) .done) (.ret)
@[simp] def W6_42 := @C.wpe _ _ K6_42.eq_1
def K6_43 : C := .cond 14 (.v 22) K6_42 (.skip)
@[simp] def W6_43 := @C.wpe _ _ K6_43.eq_1
def K6_44 : Pl := .st (.act (some (.v 17, false)) (.px (some 21) (.un .not (.v 20)))) <|
    .st (.act none (.px (some 22) (.pick (.v 17) (.c (.bool true)) (.v 21)))) .done
@[simp] def W6_44 := @Pl.wpe _ _ K6_44.eq_1
def K6_45 : C := .seq (.seq (.pl <| .st (.ext 14 9) <|
    .st (.act none (.px (some 14) (.mv (.v 7)))) <|
    .st (.act none (.px (some 15) (.mv (.v 4)))) <|
    .st (.act none (.px (some 16) (.bin .neq (.v 14) (.v 15)))) <|
    .st (.act none (.px (some 17) (.mv (.v 16)))) <|
    .st (.act (some (.v 17, false)) (.px (some 18) (.mv (.v 8)))) <|
    .st (.act (some (.v 17, false)) (.px (some 19) (.mv (.v 5)))) <|
    .st (.act (some (.v 17, false)) (.ex (some 20) (.call fn_laws_eqStateS [.v 18, .v 19]))) K6_44) K6_43) K6_41
@[simp] def W6_45 := @C.wpe _ _ K6_45.eq_1
def K6_46 : Pl := .st (.act none (.px (some 16) (.mv (.v 15)))) <|
    .st (.act none (.px (some 17) (.extract 0 (.v 16)))) <|
    .st (.act none (.px (some 18) (.extract 1 (.v 16)))) <|
    .st (.act none (.px (some 7) (.mv (.v 17)))) <|
    .st (.act none (.px (some 8) (.mv (.v 18)))) .done
@[simp] def W6_46 := @Pl.wpe _ _ K6_46.eq_1
def K6_47 : C := .seq (.pl <| .st (.ext 14 5) <|
    .st (.act none (.pget (some 14) none 6 0 (some 2))) <|
    .st (.act none (.ex (some 15) (.call fn_impl_CheckDeadlock [.v 14]))) K6_46) K6_45
@[simp] def W6_47 := @C.wpe _ _ K6_47.eq_1
def K6_48 : Pl := .st (.act none (.pnew 6 (.c (.agg #[.slice none 0 0, .slice none 0 0])) [])) <|
    .st (.act none (.pset none 6 0 2 (.v 15))) .done
@[simp] def W6_48 := @Pl.wpe _ _ K6_48.eq_1
def K6_49 : C := .seq (.pl <| .st (.ext 14 2) <|
    .st (.act none (.pget (some 14) none 1 0 (some 2))) <|
    .st (.act none (.ex (some 15) (.call fn_laws_toSystem [.v 14]))) K6_48) K6_47
@[simp] def W6_49 := @C.wpe _ _ K6_49.eq_1
def K6_50 : Pl := .st (.act none (.px (some 17) (.mv (.v 16)))) <|
    .st (.act none (.px (some 18) (.extract 0 (.v 17)))) <|
    .st (.act none (.px (some 19) (.extract 1 (.v 17)))) <|
    .st (.act none (.px (some 4) (.mv (.v 18)))) <|
    .st (.act none (.px (some 5) (.mv (.v 19)))) .done
@[simp] def W6_50 := @Pl.wpe _ _ K6_50.eq_1
def K6_51 : Pl := .st (.act none (.ex (some 16) (.call fn_spec_CheckDeadlock [.v 15]))) K6_50
@[simp] def W6_51 := @Pl.wpe _ _ K6_51.eq_1
def K6_52 : C := .seq (.pl <| .st (.ext 14 6) <|
    .st (.act none (.pget (some 14) none 1 0 (some 2))) <|
    .st (.act none (.ex (some 15) (.call fn_laws_toSystem [.v 14]))) K6_51) K6_49
@[simp] def W6_52 := @C.wpe _ _ K6_52.eq_1
def K6_53 : C := .seq (.pl <| .st (.ext 14 0) <|
    .st (.act none (.px (some 2) (.mv (.c (.bool true))))) .done) (.ret)
@[simp] def W6_53 := @C.wpe _ _ K6_53.eq_1
def K6_54 : C := .cond 14 (.v 15) K6_53 (.skip)
@[simp] def W6_54 := @C.wpe _ _ K6_54.eq_1
def K6_55 : C := .seq (.seq (.pl <| .st (.ext 14 2) <|
    .st (.act none (.px (some 14) (.mv (.v 3)))) <|
    .st (.act none (.px (some 15) (.bin .lss (.v 14) (.c (.int .i64 0))))) .done) K6_54) K6_52
@[simp] def W6_55 := @C.wpe _ _ K6_55.eq_1
def K6_56 : Pl := .st (.act none (.px (some 3) (.mv (.v 16)))) .done
@[simp] def W6_56 := @Pl.wpe _ _ K6_56.eq_1
def K6_57 : C := .seq (.pl <| .st (.ext 14 3) <|
    .st (.act none (.pget (some 14) none 1 0 (some 2))) <|
    .st (.act none (.px (some 15) (.mv (.v 3)))) <|
    .st (.act none (.ex (some 16) (.call fn_laws_szSystem [.v 14, .v 15]))) K6_56) K6_55
@[simp] def W6_57 := @C.wpe _ _ K6_57.eq_1
def K6_58 : C := .seq (.pl <| .st (.ext 14 0) <|
    .st (.act none (.px (some 3) (.mv (.c (.int .i64 1048576))))) .done) K6_57
@[simp] def W6_58 := @C.wpe _ _ K6_58.eq_1
def B_laws_FnExactCheckDeadlock : C := .seq (.pl <| .st (.ext 14 0) <|
    .st (.act none (.pnew 1 (.v 0) [])) <|
    .st (.act none (.px (some 2) (.mv (.c (.bool false))))) .done) K6_58
@[simp] def WB_laws_FnExactCheckDeadlock := @C.wpe _ _ B_laws_FnExactCheckDeadlock.eq_1
def R_laws_FnExactCheckDeadlock : FIR := ⟨B_laws_FnExactCheckDeadlock, 14, [(2, none)]⟩
theorem IR_laws_FnExactCheckDeadlock : cfun Tryz.prog H_laws_FnExactCheckDeadlock Tryz.f6 = some R_laws_FnExactCheckDeadlock := by kernel_rfl
theorem EN_laws_FnExactCheckDeadlock {args : List Value} {h : Heap} {k : Value → Heap → Prop} (hargs : args.length = 1) (hw : B_laws_FnExactCheckDeadlock.wp Tryz.prog (retQ [(2, none)] k) (env0 args 14) h) : CallE Tryz.prog fn_laws_FnExactCheckDeadlock args h k := enter Tryz.func6 rfl IR_laws_FnExactCheckDeadlock hargs hw

def H_spec_CheckDeadlock : Hint := ⟨[(0, false), (1, true), (2, false), (3, false), (4, true), (5, false), (6, false), (7, false)], [[0, 2, 3, 5]]⟩
def K30_1 : Pl := .st (.act none (.px (some 11) (.extract 0 (.v 10)))) <|
    .st (.act none (.px (some 12) (.extract 1 (.v 10)))) <|
    .st (.act none (.px (some 2) (.mv (.v 11)))) <|
    .st (.act none (.px (some 3) (.mv (.v 12)))) .done
@[simp] def W30_1 := @Pl.wpe _ _ K30_1.eq_1
def K30_2 : C := .seq (.pl <| .st (.ext 8 5) <|
    .st (.act none (.pget (some 8) none 4 0 (some 2))) <|
    .st (.act none (.px (some 9) (.mv (.v 6)))) <|
    .st (.act none (.ex (some 10) (.call fn_spec_l4First [.v 8, .v 9]))) K30_1) (.ret)
@[simp] def W30_2 := @C.wpe _ _ K30_2.eq_1
def K30_3 : C := .pl <| .st (.ext 8 2) <|
    .st (.act none (.px (some 8) (.mv (.v 7)))) <|
    .st (.act none (.px (some 9) (.bin .add (.v 8) (.c (.int .i64 1))))) <|
    .st (.act none (.px (some 7) (.mv (.v 9)))) .done
@[simp] def W30_3 := @C.wpe _ _ K30_3.eq_1
def K30_4 : Pl := .st (.act none (.px (some 6) (.mv (.v 17)))) .done
@[simp] def W30_4 := @Pl.wpe _ _ K30_4.eq_1
def K30_5 : Pl := .st (.act none (.psl 16 [.bool false] [(0, 1, .v 15)])) <|
    .st (.act none (.ex (some 17) (.app 1 1 [.bool false] (.o (.v 8)) (.p 1 16)))) K30_4
@[simp] def W30_5 := @Pl.wpe _ _ K30_5.eq_1
def K30_6 : C := .seq (.block 1 (.pl <| .st (.ext 8 10) <|
    .st (.act none (.px (some 8) (.mv (.v 6)))) <|
    .st (.act none (.pget (some 9) none 1 0 (some 2))) <|
    .st (.act none (.als 10 none 4)) <|
    .st (.act none (.pget (some 11) (some 10) 4 0 none)) <|
    .st (.act none (.px (some 12) (.mv (.v 7)))) <|
    .st (.act none (.px (some 13) (.ia 2 (.v 11) (.v 12)))) <|
    .st (.act none (.ld (some 14) (.v 13) (some 2))) <|
    .st (.act none (.ex (some 15) (.call fn_spec_IsDeadlock [.v 9, .v 14]))) K30_5)) K30_3
@[simp] def W30_6 := @C.wpe _ _ K30_6.eq_1
def K30_7 : C := .cond 8 (.v 12) (.skip) (.exit 0)
@[simp] def W30_7 := @C.wpe _ _ K30_7.eq_1
def K30_8 : C := .seq (.seq (.pl <| .st (.ext 8 5) <|
    .st (.act none (.px (some 8) (.mv (.v 7)))) <|
    .st (.act none (.als 9 none 4)) <|
    .st (.act none (.pget (some 10) (some 9) 4 0 none)) <|
    .st (.act none (.px (some 11) (.lenV (.v 10)))) <|
    .st (.act none (.px (some 12) (.bin .lss (.v 8) (.v 11)))) .done) K30_7) K30_6
@[simp] def W30_8 := @C.wpe _ _ K30_8.eq_1
def K30_9 : C := .block 0 (.loop 8 [0, 2, 3, 5] K30_8)
@[simp] def W30_9 := @C.wpe _ _ K30_9.eq_1
def K30_10 : C := .seq (.seq (.pl <| .st (.ext 8 0) <|
    .st (.act none (.px (some 7) (.mv (.c (.int .i64 0))))) .done) K30_9) K30_2
@[simp] def W30_10 := @C.wpe _ _ K30_10.eq_1
def K30_11 : Pl := .st (.act none (.px (some 6) (.mv (.v 8)))) .done
@[simp] def W30_11 := @Pl.wpe _ _ K30_11.eq_1
def K30_12 : C := .seq (.pl <| .st (.ext 8 1) <|
    .st (.act none (.ex (some 8) (.bls 1 0 [.bool false] []))) K30_11) K30_10
@[simp] def W30_12 := @C.wpe _ _ K30_12.eq_1
def K30_13 : Pl := .st (.act none (.px (some 2) (.mv (.c (.int .i64 2))))) <|
    .st (.act none (.px (some 3) (.mv (.v 8)))) .done
@[simp] def W30_13 := @Pl.wpe _ _ K30_13.eq_1
def K30_14 : C := .seq (.pl <| .st (.ext 8 1) <|
    .st (.act none (.ex (some 8) (.bls 2 0 [.slice none 0 0, .slice none 0 0] []))) K30_13) (.ret)
@[simp] def W30_14 := @C.wpe _ _ K30_14.eq_1
def K30_15 : C := .cond 8 (.v 9) K30_14 (.skip)
@[simp] def W30_15 := @C.wpe _ _ K30_15.eq_1
def K30_16 : C := .seq (.seq (.pl <| .st (.ext 8 2) <|
    .st (.act none (.px (some 8) (.mv (.v 5)))) <|
    .st (.act none (.px (some 9) (.un .not (.v 8)))) .done) K30_15) K30_12
@[simp] def W30_16 := @C.wpe _ _ K30_16.eq_1
def K30_17 : Pl := .st (.act none (.px (some 10) (.mv (.v 9)))) <|
    .st (.act none (.px (some 11) (.extract 0 (.v 10)))) <|
    .st (.act none (.px (some 12) (.extract 1 (.v 10)))) <|
    .st (.act none (.pnew 4 (.c (.agg #[.slice none 0 0, .slice none 0 0])) [])) <|
    .st (.act none (.pset none 4 0 2 (.v 11))) <|
    .st (.act none (.px (some 5) (.mv (.v 12)))) .done
@[simp] def W30_17 := @Pl.wpe _ _ K30_17.eq_1
def K30_18 : C := .seq (.pl <| .st (.ext 8 5) <|
    .st (.act none (.pget (some 8) none 1 0 (some 2))) <|
    .st (.act none (.ex (some 9) (.call fn_spec_BuildGraph [.v 8]))) K30_17) K30_16
@[simp] def W30_18 := @C.wpe _ _ K30_18.eq_1
def K30_19 : Pl := .st (.act none (.px (some 2) (.mv (.c (.int .i64 3))))) <|
    .st (.act none (.px (some 3) (.mv (.v 8)))) .done
@[simp] def W30_19 := @Pl.wpe _ _ K30_19.eq_1
def K30_20 : C := .seq (.pl <| .st (.ext 8 1) <|
    .st (.act none (.ex (some 8) (.bls 2 0 [.slice none 0 0, .slice none 0 0] []))) K30_19) (.ret)
@[simp] def W30_20 := @C.wpe _ _ K30_20.eq_1
def K30_21 : C := .cond 8 (.v 10) K30_20 (.skip)
@[simp] def W30_21 := @C.wpe _ _ K30_21.eq_1
def K30_22 : Pl := .st (.act none (.px (some 10) (.un .not (.v 9)))) .done
@[simp] def W30_22 := @Pl.wpe _ _ K30_22.eq_1
def K30_23 : C := .seq (.seq (.pl <| .st (.ext 8 3) <|
    .st (.act none (.pget (some 8) none 1 0 (some 2))) <|
    .st (.act none (.ex (some 9) (.call fn_spec_SystemValid [.v 8]))) K30_22) K30_21) K30_18
@[simp] def W30_23 := @C.wpe _ _ K30_23.eq_1
def B_spec_CheckDeadlock : C := .seq (.pl <| .st (.ext 8 0) <|
    .st (.act none (.pnew 1 (.v 0) [])) <|
    .st (.act none (.px (some 2) (.mv (.c (.int .i64 0))))) <|
    .st (.act none (.px (some 3) (.mv (.c (.slice none 0 0))))) .done) K30_23
@[simp] def WB_spec_CheckDeadlock := @C.wpe _ _ B_spec_CheckDeadlock.eq_1
def R_spec_CheckDeadlock : FIR := ⟨B_spec_CheckDeadlock, 8, [(2, none), (3, none)]⟩
theorem IR_spec_CheckDeadlock : cfun Tryz.prog H_spec_CheckDeadlock Tryz.f30 = some R_spec_CheckDeadlock := by kernel_rfl
theorem EN_spec_CheckDeadlock {args : List Value} {h : Heap} {k : Value → Heap → Prop} (hargs : args.length = 1) (hw : B_spec_CheckDeadlock.wp Tryz.prog (retQ [(2, none), (3, none)] k) (env0 args 8) h) : CallE Tryz.prog fn_spec_CheckDeadlock args h k := enter Tryz.func30 rfl IR_spec_CheckDeadlock hargs hw

def H_spec_IsDeadlock : Hint := ⟨[(0, false), (1, false), (2, true), (3, true), (4, false)], []⟩
def K66_1 : Pl := .st (.act (some (.v 8, true)) (.px (some 12) (.lenV (.v 11)))) <|
    .st (.act (some (.v 8, true)) (.px (some 13) (.bin .eql (.v 12) (.c (.int .i64 0))))) <|
    .st (.act none (.px (some 14) (.pick (.v 8) (.v 13) (.c (.bool false))))) <|
    .st (.act none (.px (some 4) (.mv (.v 14)))) .done
@[simp] def W66_1 := @Pl.wpe _ _ K66_1.eq_1
def K66_2 : Pl := .st (.act none (.px (some 8) (.mv (.v 7)))) <|
    .st (.act (some (.v 8, true)) (.pget (some 9) none 2 0 (some 2))) <|
    .st (.act (some (.v 8, true)) (.pget (some 10) none 3 0 (some 2))) <|
    .st (.act (some (.v 8, true)) (.ex (some 11) (.call fn_spec_l3Steps [.v 9, .v 10]))) K66_1
@[simp] def W66_2 := @Pl.wpe _ _ K66_2.eq_1
def K66_3 : C := .seq (.pl <| .st (.ext 5 10) <|
    .st (.act none (.pget (some 5) none 2 0 (some 2))) <|
    .st (.act none (.pget (some 6) none 3 0 (some 2))) <|
    .st (.act none (.ex (some 7) (.call fn_spec_StateValid [.v 5, .v 6]))) K66_2) (.ret)
@[simp] def W66_3 := @C.wpe _ _ K66_3.eq_1
def B_spec_IsDeadlock : C := .seq (.pl <| .st (.ext 5 0) <|
    .st (.act none (.pnew 2 (.v 0) [])) <|
    .st (.act none (.pnew 3 (.v 1) [])) <|
    .st (.act none (.px (some 4) (.mv (.c (.bool false))))) .done) K66_3
@[simp] def WB_spec_IsDeadlock := @C.wpe _ _ B_spec_IsDeadlock.eq_1
def R_spec_IsDeadlock : FIR := ⟨B_spec_IsDeadlock, 5, [(4, none)]⟩
theorem IR_spec_IsDeadlock : cfun Tryz.prog H_spec_IsDeadlock Tryz.f66 = some R_spec_IsDeadlock := by kernel_rfl
theorem EN_spec_IsDeadlock {args : List Value} {h : Heap} {k : Value → Heap → Prop} (hargs : args.length = 2) (hw : B_spec_IsDeadlock.wp Tryz.prog (retQ [(4, none)] k) (env0 args 5) h) : CallE Tryz.prog fn_spec_IsDeadlock args h k := enter Tryz.func66 rfl IR_spec_IsDeadlock hargs hw

def H_spec_StateValid : Hint := ⟨[(0, false), (1, false), (2, true), (3, true), (4, false), (5, false)], [[0, 1, 4]]⟩
def K103_1 : C := .seq (.pl <| .st (.ext 6 0) <|
    .st (.act none (.px (some 4) (.mv (.c (.bool true))))) .done) (.ret)
@[simp] def W103_1 := @C.wpe _ _ K103_1.eq_1
def K103_2 : C := .pl <| .st (.ext 6 2) <|
    .st (.act none (.px (some 6) (.mv (.v 5)))) <|
    .st (.act none (.px (some 7) (.bin .add (.v 6) (.c (.int .i64 1))))) <|
    .st (.act none (.px (some 5) (.mv (.v 7)))) .done
@[simp] def W103_2 := @C.wpe _ _ K103_2.eq_1
def K103_3 : C := .seq (.pl <| .st (.ext 6 0) <|
    .st (.act none (.px (some 4) (.mv (.c (.bool false))))) .done) (.ret)
@[simp] def W103_3 := @C.wpe _ _ K103_3.eq_1
def K103_4 : C := .cond 6 (.v 25) K103_3 (.skip)
@[simp] def W103_4 := @C.wpe _ _ K103_4.eq_1
def K103_5 : C := .seq (.block 1 (.seq (.pl <| .st (.ext 6 20) <|
    .st (.act none (.als 6 none 3)) <|
    .st (.act none (.pget (some 7) (some 6) 3 0 none)) <|
    .st (.act none (.px (some 8) (.mv (.v 5)))) <|
    .st (.act none (.px (some 9) (.ia 1 (.v 7) (.v 8)))) <|
    .st (.act none (.ld (some 10) (.v 9) none)) <|
    .st (.act none (.px (some 11) (.bin .lss (.v 10) (.c (.int .i64 0))))) <|
    .st (.act none (.px (some 12) (.mv (.v 11)))) <|
    .st (.act (some (.v 12, false)) (.als 13 none 3)) <|
    .st (.act (some (.v 12, false)) (.pget (some 14) (some 13) 3 0 none)) <|
    .st (.act (some (.v 12, false)) (.px (some 15) (.mv (.v 5)))) <|
    .st (.act (some (.v 12, false)) (.px (some 16) (.ia 1 (.v 14) (.v 15)))) <|
    .st (.act (some (.v 12, false)) (.ld (some 17) (.v 16) none)) <|
    .st (.act (some (.v 12, false)) (.als 18 none 2)) <|
    .st (.act (some (.v 12, false)) (.pget (some 19) (some 18) 2 1 none)) <|
    .st (.act (some (.v 12, false)) (.px (some 20) (.mv (.v 5)))) <|
    .st (.act (some (.v 12, false)) (.px (some 21) (.ia 2 (.v 19) (.v 20)))) <|
    .st (.act (some (.v 12, false)) (.px (some 22) (.fa 0 (.v 21)))) <|
    .st (.act (some (.v 12, false)) (.ld (some 23) (.v 22) none)) <|
    .st (.act (some (.v 12, false)) (.px (some 24) (.bin .geq (.v 17) (.v 23)))) <|
    .st (.act none (.px (some 25) (.pick (.v 12) (.c (.bool true)) (.v 24)))) .done) K103_4)) K103_2
@[simp] def W103_5 := @C.wpe _ _ K103_5.eq_1
def K103_6 : C := .cond 6 (.v 10) (.skip) (.exit 0)
@[simp] def W103_6 := @C.wpe _ _ K103_6.eq_1
def K103_7 : C := .seq (.seq (.pl <| .st (.ext 6 5) <|
    .st (.act none (.px (some 6) (.mv (.v 5)))) <|
    .st (.act none (.als 7 none 3)) <|
    .st (.act none (.pget (some 8) (some 7) 3 0 none)) <|
    .st (.act none (.px (some 9) (.lenV (.v 8)))) <|
    .st (.act none (.px (some 10) (.bin .lss (.v 6) (.v 9)))) .done) K103_6) K103_5
@[simp] def W103_7 := @C.wpe _ _ K103_7.eq_1
def K103_8 : C := .block 0 (.loop 6 [0, 1, 4] K103_7)
@[simp] def W103_8 := @C.wpe _ _ K103_8.eq_1
def K103_9 : C := .seq (.seq (.pl <| .st (.ext 6 0) <|
    .st (.act none (.px (some 5) (.mv (.c (.int .i64 0))))) .done) K103_8) K103_1
@[simp] def W103_9 := @C.wpe _ _ K103_9.eq_1
def K103_10 : C := .seq (.pl <| .st (.ext 6 0) <|
    .st (.act none (.px (some 4) (.mv (.c (.bool false))))) .done) (.ret)
@[simp] def W103_10 := @C.wpe _ _ K103_10.eq_1
def K103_11 : C := .cond 6 (.v 23) K103_10 (.skip)
@[simp] def W103_11 := @C.wpe _ _ K103_11.eq_1
def K103_12 : Pl := .st (.act (some (.v 18, false)) (.px (some 22) (.un .not (.v 21)))) <|
    .st (.act none (.px (some 23) (.pick (.v 18) (.c (.bool true)) (.v 22)))) .done
@[simp] def W103_12 := @Pl.wpe _ _ K103_12.eq_1
def K103_13 : Pl := .st (.act none (.px (some 8) (.un .not (.v 7)))) <|
    .st (.act none (.px (some 9) (.mv (.v 8)))) <|
    .st (.act (some (.v 9, false)) (.als 10 none 3)) <|
    .st (.act (some (.v 9, false)) (.pget (some 11) (some 10) 3 0 none)) <|
    .st (.act (some (.v 9, false)) (.px (some 12) (.lenV (.v 11)))) <|
    .st (.act (some (.v 9, false)) (.als 13 none 2)) <|
    .st (.act (some (.v 9, false)) (.pget (some 14) (some 13) 2 1 none)) <|
    .st (.act (some (.v 9, false)) (.px (some 15) (.lenV (.v 14)))) <|
    .st (.act (some (.v 9, false)) (.px (some 16) (.bin .neq (.v 12) (.v 15)))) <|
    .st (.act none (.px (some 17) (.pick (.v 9) (.c (.bool true)) (.v 16)))) <|
    .st (.act none (.px (some 18) (.mv (.v 17)))) <|
    .st (.act (some (.v 18, false)) (.als 19 none 3)) <|
    .st (.act (some (.v 18, false)) (.pget (some 20) (some 19) 3 1 none)) <|
    .st (.act (some (.v 18, false)) (.ex (some 21) (.call fn_spec_l1Vals [.v 20]))) K103_12
@[simp] def W103_13 := @Pl.wpe _ _ K103_13.eq_1
def K103_14 : C := .seq (.seq (.pl <| .st (.ext 6 18) <|
    .st (.act none (.pget (some 6) none 2 0 (some 2))) <|
    .st (.act none (.ex (some 7) (.call fn_spec_SystemValid [.v 6]))) K103_13) K103_11) K103_9
@[simp] def W103_14 := @C.wpe _ _ K103_14.eq_1
def B_spec_StateValid : C := .seq (.pl <| .st (.ext 6 0) <|
    .st (.act none (.pnew 2 (.v 0) [])) <|
    .st (.act none (.pnew 3 (.v 1) [])) <|
    .st (.act none (.px (some 4) (.mv (.c (.bool false))))) .done) K103_14
@[simp] def WB_spec_StateValid := @C.wpe _ _ B_spec_StateValid.eq_1
def R_spec_StateValid : FIR := ⟨B_spec_StateValid, 6, [(4, none)]⟩
theorem IR_spec_StateValid : cfun Tryz.prog H_spec_StateValid Tryz.f103 = some R_spec_StateValid := by kernel_rfl
theorem EN_spec_StateValid {args : List Value} {h : Heap} {k : Value → Heap → Prop} (hargs : args.length = 2) (hw : B_spec_StateValid.wp Tryz.prog (retQ [(4, none)] k) (env0 args 6) h) : CallE Tryz.prog fn_spec_StateValid args h k := enter Tryz.func103 rfl IR_spec_StateValid hargs hw


end Go.Proofs.YthgimpheeemooaaGreat
