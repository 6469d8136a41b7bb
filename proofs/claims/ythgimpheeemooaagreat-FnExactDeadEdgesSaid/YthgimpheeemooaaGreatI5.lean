/-
  Bodies of functions in the small language, as a program printed them, and that each is what the translation gives.
-/
import Derived.Test.YthgimpheeemooaaGreatI1
namespace Go.Proofs.YthgimpheeemooaaGreat
open Go
set_option linter.all false
set_option linter.defProp false
set_option maxRecDepth 1000000

def H_spec_l3Steps : Hint := ⟨[(0, false), (1, false), (2, true), (3, true), (4, false), (5, false), (6, false), (7, false), (8, false)], [[0, 1, 4, 7, 8], [0, 1, 4, 8]]⟩
def K34_1 : C := .seq (.pl <| .st (.ext 9 1) <|
    .st (.act none (.px (some 9) (.mv (.v 5)))) <|
    .st (.act none (.px (some 4) (.mv (.v 9)))) .done) (.ret)
@[simp] def W34_1 := @C.wpe _ _ K34_1.eq_1
def K34_2 : C := .pl <| .st (.ext 9 2) <|
    .st (.act none (.px (some 9) (.mv (.v 6)))) <|
    .st (.act none (.px (some 10) (.bin .add (.v 9) (.c (.int .i64 1))))) <|
    .st (.act none (.px (some 6) (.mv (.v 10)))) .done
@[simp] def W34_2 := @C.wpe _ _ K34_2.eq_1
def K34_3 : C := .pl <| .st (.ext 9 2) <|
    .st (.act none (.px (some 9) (.mv (.v 7)))) <|
    .st (.act none (.px (some 10) (.bin .add (.v 9) (.c (.int .i64 1))))) <|
    .st (.act none (.px (some 7) (.mv (.v 10)))) .done
@[simp] def W34_3 := @C.wpe _ _ K34_3.eq_1
def K34_4 : Pl := .st (.act none (.px (some 5) (.mv (.v 14)))) .done
@[simp] def W34_4 := @Pl.wpe _ _ K34_4.eq_1
def K34_5 : C := .pl <| .st (.ext 9 6) <|
    .st (.act none (.px (some 9) (.mv (.v 5)))) <|
    .st (.act none (.px (some 10) (.mv (.v 6)))) <|
    .st (.act none (.px (some 11) (.mv (.v 7)))) <|
    .st (.act none (.px (some 12) (.build [.int .i64 0, .int .i64 0, .int .i64 0, .int .i64 0] [(0, 1, .v 10), (1, 1, .v 11), (2, 1, .c (.int .i64 (-1))), (3, 1, .c (.int .i64 (-1)))]))) <|
    .st (.act none (.psl 13 [.int .i64 0, .int .i64 0, .int .i64 0, .int .i64 0] [(0, 4, .v 12)])) <|
    .st (.act none (.ex (some 14) (.app 32 4 [.int .i64 0, .int .i64 0, .int .i64 0, .int .i64 0] (.o (.v 9)) (.p 1 13)))) K34_4
@[simp] def W34_5 := @C.wpe _ _ K34_5.eq_1
def K34_6 : Pl := .st (.act none (.px (some 5) (.mv (.v 15)))) .done
@[simp] def W34_6 := @Pl.wpe _ _ K34_6.eq_1
def K34_7 : Pl := .st (.act none (.ex (some 15) (.app 32 4 [.int .i64 0, .int .i64 0, .int .i64 0, .int .i64 0] (.o (.v 9)) (.o (.v 14))))) K34_6
@[simp] def W34_7 := @Pl.wpe _ _ K34_7.eq_1
def K34_8 : C := .pl <| .st (.ext 9 7) <|
    .st (.act none (.px (some 9) (.mv (.v 5)))) <|
    .st (.act none (.pget (some 10) none 2 0 (some 2))) <|
    .st (.act none (.pget (some 11) none 3 0 (some 2))) <|
    .st (.act none (.px (some 12) (.mv (.v 6)))) <|
    .st (.act none (.px (some 13) (.mv (.v 7)))) <|
    .st (.act none (.ex (some 14) (.call fn_spec_l3Partners [.v 10, .v 11, .v 12, .v 13]))) K34_7
@[simp] def W34_8 := @C.wpe _ _ K34_8.eq_1
def K34_9 : C := .cond 9 (.v 10) K34_5 K34_8
@[simp] def W34_9 := @C.wpe _ _ K34_9.eq_1
def K34_10 : C := .seq (.pl <| .st (.ext 9 2) <|
    .st (.act none (.px (some 9) (.mv (.v 8)))) <|
    .st (.act none (.px (some 10) (.bin .eql (.v 9) (.c (.int .i64 0))))) .done) K34_9
@[simp] def W34_10 := @C.wpe _ _ K34_10.eq_1
def K34_11 : C := .cond 9 (.v 18) (.exit 3) (.skip)
@[simp] def W34_11 := @C.wpe _ _ K34_11.eq_1
def K34_12 : Pl := .st (.act (some (.v 11, false)) (.px (some 17) (.un .not (.v 16)))) <|
    .st (.act none (.px (some 18) (.pick (.v 11) (.c (.bool true)) (.v 17)))) .done
@[simp] def W34_12 := @Pl.wpe _ _ K34_12.eq_1
def K34_13 : C := .seq (.seq (.pl <| .st (.ext 9 10) <|
    .st (.act none (.px (some 9) (.mv (.v 8)))) <|
    .st (.act none (.px (some 10) (.bin .lss (.v 9) (.c (.int .i64 0))))) <|
    .st (.act none (.px (some 11) (.mv (.v 10)))) <|
    .st (.act (some (.v 11, false)) (.pget (some 12) none 2 0 (some 2))) <|
    .st (.act (some (.v 11, false)) (.pget (some 13) none 3 0 (some 2))) <|
    .st (.act (some (.v 11, false)) (.px (some 14) (.mv (.v 6)))) <|
    .st (.act (some (.v 11, false)) (.px (some 15) (.mv (.v 7)))) <|
    .st (.act (some (.v 11, false)) (.ex (some 16) (.call fn_spec_l3Ready [.v 12, .v 13, .v 14, .v 15]))) K34_12) K34_11) K34_10
@[simp] def W34_13 := @C.wpe _ _ K34_13.eq_1
def K34_14 : C := .seq (.block 3 (.seq (.pl <| .st (.ext 9 10) <|
    .st (.act none (.als 9 none 2)) <|
    .st (.act none (.pget (some 10) (some 9) 2 1 none)) <|
    .st (.act none (.px (some 11) (.mv (.v 6)))) <|
    .st (.act none (.px (some 12) (.ia 2 (.v 10) (.v 11)))) <|
    .st (.act none (.px (some 13) (.fa 1 (.v 12)))) <|
    .st (.act none (.ld (some 14) (.v 13) none)) <|
    .st (.act none (.px (some 15) (.mv (.v 7)))) <|
    .st (.act none (.px (some 16) (.ia 10 (.v 14) (.v 15)))) <|
    .st (.act none (.px (some 17) (.fa 9 (.v 16)))) <|
    .st (.act none (.ld (some 18) (.v 17) none)) <|
    .st (.act none (.px (some 8) (.mv (.v 18)))) .done) K34_13)) K34_3
@[simp] def W34_14 := @C.wpe _ _ K34_14.eq_1
def K34_15 : C := .cond 9 (.v 17) (.skip) (.exit 2)
@[simp] def W34_15 := @C.wpe _ _ K34_15.eq_1
def K34_16 : C := .seq (.seq (.pl <| .st (.ext 9 9) <|
    .st (.act none (.px (some 9) (.mv (.v 7)))) <|
    .st (.act none (.als 10 none 2)) <|
    .st (.act none (.pget (some 11) (some 10) 2 1 none)) <|
    .st (.act none (.px (some 12) (.mv (.v 6)))) <|
    .st (.act none (.px (some 13) (.ia 2 (.v 11) (.v 12)))) <|
    .st (.act none (.px (some 14) (.fa 1 (.v 13)))) <|
    .st (.act none (.ld (some 15) (.v 14) none)) <|
    .st (.act none (.px (some 16) (.lenV (.v 15)))) <|
    .st (.act none (.px (some 17) (.bin .lss (.v 9) (.v 16)))) .done) K34_15) K34_14
@[simp] def W34_16 := @C.wpe _ _ K34_16.eq_1
def K34_17 : C := .block 2 (.loop 9 [0, 1, 4, 8] K34_16)
@[simp] def W34_17 := @C.wpe _ _ K34_17.eq_1
def K34_18 : C := .seq (.block 1 (.seq (.pl <| .st (.ext 9 0) <|
    .st (.act none (.px (some 7) (.mv (.c (.int .i64 0))))) .done) K34_17)) K34_2
@[simp] def W34_18 := @C.wpe _ _ K34_18.eq_1
def K34_19 : C := .cond 9 (.v 13) (.skip) (.exit 0)
@[simp] def W34_19 := @C.wpe _ _ K34_19.eq_1
def K34_20 : C := .seq (.seq (.pl <| .st (.ext 9 5) <|
    .st (.act none (.px (some 9) (.mv (.v 6)))) <|
    .st (.act none (.als 10 none 2)) <|
    .st (.act none (.pget (some 11) (some 10) 2 1 none)) <|
    .st (.act none (.px (some 12) (.lenV (.v 11)))) <|
    .st (.act none (.px (some 13) (.bin .lss (.v 9) (.v 12)))) .done) K34_19) K34_18
@[simp] def W34_20 := @C.wpe _ _ K34_20.eq_1
def K34_21 : C := .block 0 (.loop 9 [0, 1, 4, 7, 8] K34_20)
@[simp] def W34_21 := @C.wpe _ _ K34_21.eq_1
def K34_22 : C := .seq (.seq (.pl <| .st (.ext 9 0) <|
    .st (.act none (.px (some 6) (.mv (.c (.int .i64 0))))) .done) K34_21) K34_1
@[simp] def W34_22 := @C.wpe _ _ K34_22.eq_1
def K34_23 : Pl := .st (.act none (.px (some 5) (.mv (.v 9)))) .done
@[simp] def W34_23 := @Pl.wpe _ _ K34_23.eq_1
def K34_24 : C := .seq (.pl <| .st (.ext 9 1) <|
    .st (.act none (.ex (some 9) (.bls 4 0 [.int .i64 0, .int .i64 0, .int .i64 0, .int .i64 0] []))) K34_23) K34_22
@[simp] def W34_24 := @C.wpe _ _ K34_24.eq_1
def B_spec_l3Steps : C := .seq (.pl <| .st (.ext 9 0) <|
    .st (.act none (.pnew 2 (.v 0) [])) <|
    .st (.act none (.pnew 3 (.v 1) [])) <|
    .st (.act none (.px (some 4) (.mv (.c (.slice none 0 0))))) .done) K34_24
@[simp] def WB_spec_l3Steps := @C.wpe _ _ B_spec_l3Steps.eq_1
def R_spec_l3Steps : FIR := ⟨B_spec_l3Steps, 9, [(4, none)]⟩
theorem IR_spec_l3Steps : cfun Tryz.prog H_spec_l3Steps Tryz.f34 = some R_spec_l3Steps := by kernel_rfl
theorem EN_spec_l3Steps {args : List Value} {h : Heap} {k : Value → Heap → Prop} (hargs : args.length = 2) (hw : B_spec_l3Steps.wp Tryz.prog (retQ [(4, none)] k) (env0 args 9) h) : CallE Tryz.prog fn_spec_l3Steps args h k := enter Tryz.func34 rfl IR_spec_l3Steps hargs hw

def H_spec_l3Take : Hint := ⟨[(0, false), (1, false), (2, false), (3, true), (5, true), (6, true)], []⟩
def K76_1 : C := .seq (.pl <| .st (.ext 6 1) <|
    .st (.act none (.pget (some 6) none 3 0 (some 2))) <|
    .st (.act none (.pset none 5 0 2 (.v 6))) .done) (.ret)
@[simp] def W76_1 := @C.wpe _ _ K76_1.eq_1
def K76_2 : Pl := .st (.act none (.px (some 15) (.ia 1 (.v 7) (.v 9)))) <|
    .st (.act none (.ex none (.store 1 (.v 15) (.v 14)))) .done
@[simp] def W76_2 := @Pl.wpe _ _ K76_2.eq_1
def K76_3 : C := .pl <| .st (.ext 6 10) <|
    .st (.act none (.als 6 none 3)) <|
    .st (.act none (.pget (some 7) (some 6) 3 1 none)) <|
    .st (.act none (.als 8 none 4)) <|
    .st (.act none (.pget (some 9) (some 8) 4 5 none)) <|
    .st (.act none (.als 10 none 4)) <|
    .st (.act none (.pget (some 11) (some 10) 4 6 (some 3))) <|
    .st (.act none (.als 12 none 3)) <|
    .st (.act none (.pget (some 13) (some 12) 3 1 none)) <|
    .st (.act none (.ex (some 14) (.call fn_spec_l1Eval [.v 11, .v 13]))) K76_2
@[simp] def W76_3 := @C.wpe _ _ K76_3.eq_1
def K76_4 : C := .cond 6 (.v 8) K76_3 (.skip)
@[simp] def W76_4 := @C.wpe _ _ K76_4.eq_1
def K76_5 : C := .seq (.seq (.pl <| .st (.ext 6 3) <|
    .st (.act none (.als 6 none 4)) <|
    .st (.act none (.pget (some 7) (some 6) 4 5 none)) <|
    .st (.act none (.px (some 8) (.bin .geq (.v 7) (.c (.int .i64 0))))) .done) K76_4) K76_1
@[simp] def W76_5 := @C.wpe _ _ K76_5.eq_1
def K76_6 : C := .seq (.pl <| .st (.ext 6 6) <|
    .st (.act none (.als 6 none 3)) <|
    .st (.act none (.pget (some 7) (some 6) 3 0 none)) <|
    .st (.act none (.px (some 8) (.mv (.v 1)))) <|
    .st (.act none (.als 9 none 4)) <|
    .st (.act none (.pget (some 10) (some 9) 4 1 none)) <|
    .st (.act none (.px (some 11) (.ia 1 (.v 7) (.v 8)))) <|
    .st (.act none (.ex none (.store 1 (.v 11) (.v 10)))) .done) K76_5
@[simp] def W76_6 := @C.wpe _ _ K76_6.eq_1
def B_spec_l3Take : C := .seq (.pl <| .st (.ext 6 0) <|
    .st (.act none (.pnew 3 (.v 0) [])) <|
    .st (.act none (.pnew 4 (.v 2) [])) <|
    .st (.act none (.pnew 5 (.c (.agg #[.slice none 0 0, .slice none 0 0])) [])) .done) K76_6
@[simp] def WB_spec_l3Take := @C.wpe _ _ B_spec_l3Take.eq_1
def R_spec_l3Take : FIR := ⟨B_spec_l3Take, 6, [(5, some (some 2))]⟩
theorem IR_spec_l3Take : cfun Tryz.prog H_spec_l3Take Tryz.f76 = some R_spec_l3Take := by kernel_rfl
theorem EN_spec_l3Take {args : List Value} {h : Heap} {k : Value → Heap → Prop} (hargs : args.length = 3) (hw : B_spec_l3Take.wp Tryz.prog (retQ [(5, some (some 2))] k) (env0 args 6) h) : CallE Tryz.prog fn_spec_l3Take args h k := enter Tryz.func76 rfl IR_spec_l3Take hargs hw

def H_spec_l4Find : Hint := ⟨[(0, false), (1, false), (3, true), (4, false), (5, false)], [[1, 3]]⟩
def K45_1 : C := .seq (.pl <| .st (.ext 5 0) <|
    .st (.act none (.px (some 3) (.mv (.c (.int .i64 (-1)))))) .done) (.ret)
@[simp] def W45_1 := @C.wpe _ _ K45_1.eq_1
def K45_2 : C := .pl <| .st (.ext 5 2) <|
    .st (.act none (.px (some 5) (.mv (.v 4)))) <|
    .st (.act none (.px (some 6) (.bin .add (.v 5) (.c (.int .i64 1))))) <|
    .st (.act none (.px (some 4) (.mv (.v 6)))) .done
@[simp] def W45_2 := @C.wpe _ _ K45_2.eq_1
def K45_3 : C := .seq (.pl <| .st (.ext 5 1) <|
    .st (.act none (.px (some 5) (.mv (.v 4)))) <|
    .st (.act none (.px (some 3) (.mv (.v 5)))) .done) (.ret)
@[simp] def W45_3 := @C.wpe _ _ K45_3.eq_1
def K45_4 : C := .cond 5 (.v 10) K45_3 (.skip)
@[simp] def W45_4 := @C.wpe _ _ K45_4.eq_1
def K45_5 : C := .seq (.block 1 (.seq (.pl <| .st (.ext 5 6) <|
    .st (.act none (.px (some 5) (.mv (.v 0)))) <|
    .st (.act none (.px (some 6) (.mv (.v 4)))) <|
    .st (.act none (.px (some 7) (.ia 2 (.v 5) (.v 6)))) <|
    .st (.act none (.ld (some 8) (.v 7) (some 2))) <|
    .st (.act none (.pget (some 9) none 2 0 (some 2))) <|
    .st (.act none (.ex (some 10) (.call fn_spec_StateSame [.v 8, .v 9]))) .done) K45_4)) K45_2
@[simp] def W45_5 := @C.wpe _ _ K45_5.eq_1
def K45_6 : C := .cond 5 (.v 8) (.skip) (.exit 0)
@[simp] def W45_6 := @C.wpe _ _ K45_6.eq_1
def K45_7 : C := .seq (.seq (.pl <| .st (.ext 5 4) <|
    .st (.act none (.px (some 5) (.mv (.v 4)))) <|
    .st (.act none (.px (some 6) (.mv (.v 0)))) <|
    .st (.act none (.px (some 7) (.lenV (.v 6)))) <|
    .st (.act none (.px (some 8) (.bin .lss (.v 5) (.v 7)))) .done) K45_6) K45_5
@[simp] def W45_7 := @C.wpe _ _ K45_7.eq_1
def K45_8 : C := .block 0 (.loop 5 [1, 3] K45_7)
@[simp] def W45_8 := @C.wpe _ _ K45_8.eq_1
def K45_9 : C := .seq (.seq (.pl <| .st (.ext 5 0) <|
    .st (.act none (.px (some 4) (.mv (.c (.int .i64 0))))) .done) K45_8) K45_1
@[simp] def W45_9 := @C.wpe _ _ K45_9.eq_1
def B_spec_l4Find : C := .seq (.pl <| .st (.ext 5 0) <|
    .st (.act none (.pnew 2 (.v 1) [])) <|
    .st (.act none (.px (some 3) (.mv (.c (.int .i64 0))))) .done) K45_9
@[simp] def WB_spec_l4Find := @C.wpe _ _ B_spec_l4Find.eq_1
def R_spec_l4Find : FIR := ⟨B_spec_l4Find, 5, [(3, none)]⟩
theorem IR_spec_l4Find : cfun Tryz.prog H_spec_l4Find Tryz.f45 = some R_spec_l4Find := by kernel_rfl
theorem EN_spec_l4Find {args : List Value} {h : Heap} {k : Value → Heap → Prop} (hargs : args.length = 2) (hw : B_spec_l4Find.wp Tryz.prog (retQ [(3, none)] k) (env0 args 5) h) : CallE Tryz.prog fn_spec_l4Find args h k := enter Tryz.func45 rfl IR_spec_l4Find hargs hw

def H_spec_l4In : Hint := ⟨[(0, false), (1, false), (4, false), (5, false)], [[2]]⟩
def K46_1 : C := .seq (.pl <| .st (.ext 4 0) <|
    .st (.act none (.px (some 2) (.mv (.c (.bool false))))) .done) (.ret)
@[simp] def W46_1 := @C.wpe _ _ K46_1.eq_1
def K46_2 : C := .pl <| .st (.ext 4 2) <|
    .st (.act none (.px (some 4) (.mv (.v 3)))) <|
    .st (.act none (.px (some 5) (.bin .add (.v 4) (.c (.int .i64 1))))) <|
    .st (.act none (.px (some 3) (.mv (.v 5)))) .done
@[simp] def W46_2 := @C.wpe _ _ K46_2.eq_1
def K46_3 : C := .seq (.pl <| .st (.ext 4 0) <|
    .st (.act none (.px (some 2) (.mv (.c (.bool true))))) .done) (.ret)
@[simp] def W46_3 := @C.wpe _ _ K46_3.eq_1
def K46_4 : C := .cond 4 (.v 9) K46_3 (.skip)
@[simp] def W46_4 := @C.wpe _ _ K46_4.eq_1
def K46_5 : C := .seq (.block 1 (.seq (.pl <| .st (.ext 4 6) <|
    .st (.act none (.px (some 4) (.mv (.v 0)))) <|
    .st (.act none (.px (some 5) (.mv (.v 3)))) <|
    .st (.act none (.px (some 6) (.ia 1 (.v 4) (.v 5)))) <|
    .st (.act none (.ld (some 7) (.v 6) none)) <|
    .st (.act none (.px (some 8) (.mv (.v 1)))) <|
    .st (.act none (.px (some 9) (.bin .eql (.v 7) (.v 8)))) .done) K46_4)) K46_2
@[simp] def W46_5 := @C.wpe _ _ K46_5.eq_1
def K46_6 : C := .cond 4 (.v 7) (.skip) (.exit 0)
@[simp] def W46_6 := @C.wpe _ _ K46_6.eq_1
def K46_7 : C := .seq (.seq (.pl <| .st (.ext 4 4) <|
    .st (.act none (.px (some 4) (.mv (.v 3)))) <|
    .st (.act none (.px (some 5) (.mv (.v 0)))) <|
    .st (.act none (.px (some 6) (.lenV (.v 5)))) <|
    .st (.act none (.px (some 7) (.bin .lss (.v 4) (.v 6)))) .done) K46_6) K46_5
@[simp] def W46_7 := @C.wpe _ _ K46_7.eq_1
def K46_8 : C := .block 0 (.loop 4 [2] K46_7)
@[simp] def W46_8 := @C.wpe _ _ K46_8.eq_1
def K46_9 : C := .seq (.seq (.pl <| .st (.ext 4 0) <|
    .st (.act none (.px (some 3) (.mv (.c (.int .i64 0))))) .done) K46_8) K46_1
@[simp] def W46_9 := @C.wpe _ _ K46_9.eq_1
def B_spec_l4In : C := .seq (.pl <| .st (.ext 4 0) <|
    .st (.act none (.px (some 2) (.mv (.c (.bool false))))) .done) K46_9
@[simp] def WB_spec_l4In := @C.wpe _ _ B_spec_l4In.eq_1
def R_spec_l4In : FIR := ⟨B_spec_l4In, 4, [(2, none)]⟩
theorem IR_spec_l4In : cfun Tryz.prog H_spec_l4In Tryz.f46 = some R_spec_l4In := by kernel_rfl
theorem EN_spec_l4In {args : List Value} {h : Heap} {k : Value → Heap → Prop} (hargs : args.length = 2) (hw : B_spec_l4In.wp Tryz.prog (retQ [(2, none)] k) (env0 args 4) h) : CallE Tryz.prog fn_spec_l4In args h k := enter Tryz.func46 rfl IR_spec_l4In hargs hw


end Go.Proofs.YthgimpheeemooaaGreat
