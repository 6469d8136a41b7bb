/-
  Texts of this proof, one behind the other.
-/
import Derived.Test.YtonjglbachhdcaaM3
/-
  Bodies of functions in the small language, as a program printed them, and that each is what the translation gives.
-/
namespace Go.Proofs.Ytonjglbachhdcaa
open Go
set_option linter.all false
set_option linter.defProp false
set_option maxRecDepth 1000000

def H_spec_l1Count : Hint := ⟨[(0, false), (1, false), (2, true), (4, false), (5, false), (6, false)], [[0, 3]]⟩
def K135_1 : C := .seq (.pl <| .st (.ext 6 1) <|
    .st (.act none (.px (some 6) (.mv (.v 4)))) <|
    .st (.act none (.px (some 3) (.mv (.v 6)))) .done) (.ret)
@[simp] def W135_1 := @C.wpe _ _ K135_1.eq_1
def K135_2 : C := .pl <| .st (.ext 6 2) <|
    .st (.act none (.px (some 6) (.mv (.v 5)))) <|
    .st (.act none (.px (some 7) (.bin .add (.v 6) (.c (.int .i64 1))))) <|
    .st (.act none (.px (some 5) (.mv (.v 7)))) .done
@[simp] def W135_2 := @C.wpe _ _ K135_2.eq_1
def K135_3 : Pl := .st (.act none (.px (some 15) (.bin .add (.v 6) (.v 14)))) <|
    .st (.act none (.px (some 4) (.mv (.v 15)))) .done
@[simp] def W135_3 := @Pl.wpe _ _ K135_3.eq_1
def K135_4 : C := .seq (.block 1 (.pl <| .st (.ext 6 10) <|
    .st (.act none (.px (some 6) (.mv (.v 4)))) <|
    .st (.act none (.als 7 none 2)) <|
    .st (.act none (.pget (some 8) (some 7) 2 2 none)) <|
    .st (.act none (.px (some 9) (.mv (.v 5)))) <|
    .st (.act none (.px (some 10) (.ia 3 (.v 8) (.v 9)))) <|
    .st (.act none (.ld (some 11) (.v 10) (some 3))) <|
    .st (.act none (.px (some 12) (.mv (.v 1)))) <|
    .st (.act none (.px (some 13) (.bin .sub (.v 12) (.c (.int .i64 1))))) <|
    .st (.act none (.ex (some 14) (.call fn_spec_l1Count [.v 11, .v 13]))) K135_3)) K135_2
@[simp] def W135_4 := @C.wpe _ _ K135_4.eq_1
def K135_5 : C := .cond 6 (.v 14) (.skip) (.exit 0)
@[simp] def W135_5 := @C.wpe _ _ K135_5.eq_1
def K135_6 : C := .seq (.seq (.pl <| .st (.ext 6 9) <|
    .st (.act none (.px (some 6) (.mv (.v 5)))) <|
    .st (.act none (.als 7 none 2)) <|
    .st (.act none (.pget (some 8) (some 7) 2 2 none)) <|
    .st (.act none (.px (some 9) (.lenV (.v 8)))) <|
    .st (.act none (.px (some 10) (.bin .lss (.v 6) (.v 9)))) <|
    .st (.act none (.px (some 11) (.mv (.v 10)))) <|
    .st (.act (some (.v 11, true)) (.px (some 12) (.mv (.v 1)))) <|
    .st (.act (some (.v 11, true)) (.px (some 13) (.bin .gtr (.v 12) (.c (.int .i64 0))))) <|
    .st (.act none (.px (some 14) (.pick (.v 11) (.v 13) (.c (.bool false))))) .done) K135_5) K135_4
@[simp] def W135_6 := @C.wpe _ _ K135_6.eq_1
def K135_7 : C := .block 0 (.loop 6 [0, 3] K135_6)
@[simp] def W135_7 := @C.wpe _ _ K135_7.eq_1
def K135_8 : C := .seq (.seq (.pl <| .st (.ext 6 0) <|
    .st (.act none (.px (some 5) (.mv (.c (.int .i64 0))))) .done) K135_7) K135_1
@[simp] def W135_8 := @C.wpe _ _ K135_8.eq_1
def K135_9 : C := .seq (.pl <| .st (.ext 6 0) <|
    .st (.act none (.px (some 4) (.mv (.c (.int .i64 1))))) .done) K135_8
@[simp] def W135_9 := @C.wpe _ _ K135_9.eq_1
def B_spec_l1Count : C := .seq (.pl <| .st (.ext 6 0) <|
    .st (.act none (.pnew 2 (.v 0) [])) <|
    .st (.act none (.px (some 3) (.mv (.c (.int .i64 0))))) .done) K135_9
@[simp] def WB_spec_l1Count := @C.wpe _ _ B_spec_l1Count.eq_1
def R_spec_l1Count : FIR := ⟨B_spec_l1Count, 6, [(3, none)]⟩
theorem IR_spec_l1Count : cfun Try.prog H_spec_l1Count Try.f135 = some R_spec_l1Count := by kernel_rfl
theorem EN_spec_l1Count {args : List Value} {h : Heap} {k : Value → Heap → Prop} (hargs : args.length = 2) (hw : B_spec_l1Count.wp Try.prog (retQ [(3, none)] k) (env0 args 6) h) : CallE Try.prog fn_spec_l1Count args h k := enter Try.func135 rfl IR_spec_l1Count hargs hw

def H_spec_l1Expr : Hint := ⟨[(0, false), (2, true), (3, true)], []⟩
def K78_1 : Pl := .st (.act none (.px (some 5) (.build [.int .i64 0, .int .i64 0, .slice none 0 0] [(0, 1, .c (.int .i64 2)), (1, 1, .v 4)]))) <|
    .st (.act none (.pset none 1 0 3 (.v 5))) .done
@[simp] def W78_1 := @Pl.wpe _ _ K78_1.eq_1
def K78_2 : C := .seq (.pl <| .st (.ext 3 3) <|
    .st (.act none (.px (some 3) (.mv (.v 0)))) <|
    .st (.act none (.ex (some 4) (.call fn_spec_l16Rd_pick [.v 3, .c (.int .i64 3)]))) K78_1) (.ret)
@[simp] def W78_2 := @C.wpe _ _ K78_2.eq_1
def K78_3 : C := .seq (.pl <| .st (.ext 3 1) <|
    .st (.act none (.pget (some 3) none 2 0 (some 3))) <|
    .st (.act none (.pset none 1 0 3 (.v 3))) .done) (.ret)
@[simp] def W78_3 := @C.wpe _ _ K78_3.eq_1
def K78_4 : C := .cond 3 (.v 4) K78_3 (.skip)
@[simp] def W78_4 := @C.wpe _ _ K78_4.eq_1
def K78_5 : C := .seq (.seq (.pl <| .st (.ext 3 2) <|
    .st (.act none (.pget (some 3) none 2 0 (some 3))) <|
    .st (.act none (.ex (some 4) (.call fn_spec_ExprValid [.v 3]))) .done) K78_4) K78_2
@[simp] def W78_5 := @C.wpe _ _ K78_5.eq_1
def K78_6 : Pl := .st (.act none (.pnew 2 (.c (.agg #[.int .i64 0, .int .i64 0, .slice none 0 0])) [])) <|
    .st (.act none (.pset none 2 0 3 (.v 7))) .done
@[simp] def W78_6 := @Pl.wpe _ _ K78_6.eq_1
def K78_7 : Pl := .st (.act none (.ex (some 7) (.call fn_spec_l1Random [.v 3, .v 6]))) K78_6
@[simp] def W78_7 := @Pl.wpe _ _ K78_7.eq_1
def K78_8 : Pl := .st (.act none (.ex (some 6) (.call fn_spec_l16Rd_num [.v 4, .v 5]))) K78_7
@[simp] def W78_8 := @Pl.wpe _ _ K78_8.eq_1
def K78_9 : C := .seq (.pl <| .st (.ext 3 5) <|
    .st (.act none (.px (some 3) (.mv (.v 0)))) <|
    .st (.act none (.px (some 4) (.mv (.v 0)))) <|
    .st (.act none (.ex (some 5) (.bls 1 4 [.int .i64 0] [(0, 1, .c (.int .i64 3)), (1, 1, .c (.int .i64 2)), (2, 1, .c (.int .i64 3)), (3, 1, .c (.int .i64 4))]))) K78_8) K78_5
@[simp] def W78_9 := @C.wpe _ _ K78_9.eq_1
def B_spec_l1Expr : C := .seq (.pl <| .st (.ext 3 0) <|
    .st (.act none (.pnew 1 (.c (.agg #[.int .i64 0, .int .i64 0, .slice none 0 0])) [])) .done) K78_9
@[simp] def WB_spec_l1Expr := @C.wpe _ _ B_spec_l1Expr.eq_1
def R_spec_l1Expr : FIR := ⟨B_spec_l1Expr, 3, [(1, some (some 3))]⟩
theorem IR_spec_l1Expr : cfun Try.prog H_spec_l1Expr Try.f78 = some R_spec_l1Expr := by kernel_rfl
theorem EN_spec_l1Expr {args : List Value} {h : Heap} {k : Value → Heap → Prop} (hargs : args.length = 1) (hw : B_spec_l1Expr.wp Try.prog (retQ [(1, some (some 3))] k) (env0 args 3) h) : CallE Try.prog fn_spec_l1Expr args h k := enter Try.func78 rfl IR_spec_l1Expr hargs hw

def H_spec_l1Mutate : Hint := ⟨[(0, false), (1, false), (3, true), (4, true), (5, true), (10, false)], []⟩
def K77_1 : C := .seq (.pl <| .st (.ext 6 1) <|
    .st (.act none (.pget (some 6) none 4 0 (some 3))) <|
    .st (.act none (.pset none 3 0 3 (.v 6))) .done) (.ret)
@[simp] def W77_1 := @C.wpe _ _ K77_1.eq_1
def K77_2 : Pl := .st (.act none (.als 9 none 4)) <|
    .st (.act none (.pset (some 9) 4 0 1 (.v 8))) .done
@[simp] def W77_2 := @Pl.wpe _ _ K77_2.eq_1
def K77_3 : Pl := .st (.act none (.ex (some 8) (.call fn_spec_l16Rd_num [.v 6, .v 7]))) K77_2
@[simp] def W77_3 := @Pl.wpe _ _ K77_3.eq_1
def K77_4 : C := .pl <| .st (.ext 6 4) <|
    .st (.act none (.px (some 6) (.mv (.v 0)))) <|
    .st (.act none (.ex (some 7) (.bls 1 7 [.int .i64 0] [(0, 1, .c (.int .i64 0)), (1, 1, .c (.int .i64 10)), (2, 1, .c (.int .i64 (-1))), (3, 1, .c (.int .i64 1)), (4, 1, .c (.int .i64 2)), (5, 1, .c (.int .i64 3)), (6, 1, .c (.int .i64 4))]))) K77_3
@[simp] def W77_4 := @C.wpe _ _ K77_4.eq_1
def K77_5 : Pl := .st (.act none (.als 9 none 4)) <|
    .st (.act none (.pset (some 9) 4 1 1 (.v 8))) .done
@[simp] def W77_5 := @Pl.wpe _ _ K77_5.eq_1
def K77_6 : Pl := .st (.act none (.ex (some 8) (.call fn_spec_l16Rd_num [.v 6, .v 7]))) K77_5
@[simp] def W77_6 := @Pl.wpe _ _ K77_6.eq_1
def K77_7 : C := .pl <| .st (.ext 6 4) <|
    .st (.act none (.px (some 6) (.mv (.v 0)))) <|
    .st (.act none (.ex (some 7) (.bls 1 4 [.int .i64 0] [(0, 1, .c (.int .i64 (-1))), (1, 1, .c (.int .i64 4)), (2, 1, .c (.int .i64 3)), (3, 1, .c (.int .i64 9223372036854775807))]))) K77_6
@[simp] def W77_7 := @C.wpe _ _ K77_7.eq_1
def K77_8 : Pl := .st (.act none (.als 11 none 4)) <|
    .st (.act none (.pset (some 11) 4 2 1 (.v 10))) .done
@[simp] def W77_8 := @Pl.wpe _ _ K77_8.eq_1
def K77_9 : C := .pl <| .st (.ext 6 6) <|
    .st (.act none (.als 6 none 4)) <|
    .st (.act none (.pget (some 7) (some 6) 4 2 none)) <|
    .st (.act none (.px (some 8) (.build [.int .i64 0, .int .i64 0, .slice none 0 0] [(0, 1, .c (.int .i64 1))]))) <|
    .st (.act none (.psl 9 [.int .i64 0, .int .i64 0, .slice none 0 0] [(0, 3, .v 8)])) <|
    .st (.act none (.ex (some 10) (.app 40 3 [.int .i64 0, .int .i64 0, .slice none 0 0] (.o (.v 7)) (.p 1 9)))) K77_8
@[simp] def W77_9 := @C.wpe _ _ K77_9.eq_1
def K77_10 : C := .seq (.pl <| .st (.ext 6 1) <|
    .st (.act none (.px (some 6) (.build [.int .i64 0, .int .i64 0, .slice none 0 0] []))) <|
    .st (.act none (.pset none 3 0 3 (.v 6))) .done) (.ret)
@[simp] def W77_10 := @C.wpe _ _ K77_10.eq_1
def K77_11 : C := .cond 6 (.v 7) K77_10 (.skip)
@[simp] def W77_11 := @C.wpe _ _ K77_11.eq_1
def K77_12 : C := .seq (.pl <| .st (.ext 6 2) <|
    .st (.act none (.px (some 6) (.bin .eql (.v 5) (.c (.int .i64 3))))) <|
    .st (.act none (.px (some 7) (.mv (.v 6)))) .done) K77_11
@[simp] def W77_12 := @C.wpe _ _ K77_12.eq_1
def K77_13 : C := .cond 6 (.v 7) K77_9 K77_12
@[simp] def W77_13 := @C.wpe _ _ K77_13.eq_1
def K77_14 : C := .seq (.pl <| .st (.ext 6 2) <|
    .st (.act none (.px (some 6) (.bin .eql (.v 5) (.c (.int .i64 2))))) <|
    .st (.act none (.px (some 7) (.mv (.v 6)))) .done) K77_13
@[simp] def W77_14 := @C.wpe _ _ K77_14.eq_1
def K77_15 : C := .cond 6 (.v 7) K77_7 K77_14
@[simp] def W77_15 := @C.wpe _ _ K77_15.eq_1
def K77_16 : C := .seq (.pl <| .st (.ext 6 2) <|
    .st (.act none (.px (some 6) (.bin .eql (.v 5) (.c (.int .i64 1))))) <|
    .st (.act none (.px (some 7) (.mv (.v 6)))) .done) K77_15
@[simp] def W77_16 := @C.wpe _ _ K77_16.eq_1
def K77_17 : C := .cond 6 (.v 7) K77_4 K77_16
@[simp] def W77_17 := @C.wpe _ _ K77_17.eq_1
def K77_18 : C := .block 0 (.seq (.pl <| .st (.ext 6 2) <|
    .st (.act none (.px (some 6) (.bin .eql (.v 5) (.c (.int .i64 0))))) <|
    .st (.act none (.px (some 7) (.mv (.v 6)))) .done) K77_17)
@[simp] def W77_18 := @C.wpe _ _ K77_18.eq_1
def K77_19 : C := .seq (.seq (.pl <| .st (.ext 6 1) <|
    .st (.act none (.px (some 6) (.mv (.v 0)))) <|
    .st (.act none (.ex (some 5) (.call fn_spec_l16Rd_pick [.v 6, .c (.int .i64 40)]))) .done) K77_18) K77_1
@[simp] def W77_19 := @C.wpe _ _ K77_19.eq_1
def K77_20 : Pl := .st (.act none (.pnew 4 (.c (.agg #[.int .i64 0, .int .i64 0, .slice none 0 0])) [])) <|
    .st (.act none (.pset none 4 0 3 (.v 8))) .done
@[simp] def W77_20 := @Pl.wpe _ _ K77_20.eq_1
def K77_21 : C := .seq (.pl <| .st (.ext 6 3) <|
    .st (.act none (.pget (some 6) none 2 0 (some 3))) <|
    .st (.act none (.px (some 7) (.build [.int .i64 0, .int .i64 0, .slice none 0 0] []))) <|
    .st (.act none (.ex (some 8) (.call fn_spec_l1Subst [.v 6, .c (.int .i64 (-1)), .v 7]))) K77_20) K77_19
@[simp] def W77_21 := @C.wpe _ _ K77_21.eq_1
def B_spec_l1Mutate : C := .seq (.pl <| .st (.ext 6 0) <|
    .st (.act none (.pnew 2 (.v 1) [])) <|
    .st (.act none (.pnew 3 (.c (.agg #[.int .i64 0, .int .i64 0, .slice none 0 0])) [])) .done) K77_21
@[simp] def WB_spec_l1Mutate := @C.wpe _ _ B_spec_l1Mutate.eq_1
def R_spec_l1Mutate : FIR := ⟨B_spec_l1Mutate, 6, [(3, some (some 3))]⟩
theorem IR_spec_l1Mutate : cfun Try.prog H_spec_l1Mutate Try.f77 = some R_spec_l1Mutate := by kernel_rfl
theorem EN_spec_l1Mutate {args : List Value} {h : Heap} {k : Value → Heap → Prop} (hargs : args.length = 2) (hw : B_spec_l1Mutate.wp Try.prog (retQ [(3, some (some 3))] k) (env0 args 6) h) : CallE Try.prog fn_spec_l1Mutate args h k := enter Try.func77 rfl IR_spec_l1Mutate hargs hw

def H_spec_l1Random : Hint := ⟨[(0, false), (1, false), (4, true), (5, false), (6, true), (7, false)], [[3]]⟩
def K113_1 : C := .seq (.pl <| .st (.ext 6 1) <|
    .st (.act none (.pget (some 6) none 4 0 (some 3))) <|
    .st (.act none (.pset none 2 0 3 (.v 6))) .done) (.ret)
@[simp] def W113_1 := @C.wpe _ _ K113_1.eq_1
def K113_2 : C := .pl <| .st (.ext 6 2) <|
    .st (.act none (.px (some 6) (.mv (.v 5)))) <|
    .st (.act none (.px (some 7) (.bin .sub (.v 6) (.c (.int .i64 1))))) <|
    .st (.act none (.px (some 5) (.mv (.v 7)))) .done
@[simp] def W113_2 := @C.wpe _ _ K113_2.eq_1
def K113_3 : Pl := .st (.act none (.als 14 none 4)) <|
    .st (.act none (.pset (some 14) 4 2 1 (.v 13))) .done
@[simp] def W113_3 := @Pl.wpe _ _ K113_3.eq_1
def K113_4 : Pl := .st (.act none (.psl 12 [.int .i64 0, .int .i64 0, .slice none 0 0] [(0, 3, .v 11)])) <|
    .st (.act none (.ex (some 13) (.app 40 3 [.int .i64 0, .int .i64 0, .slice none 0 0] (.o (.v 7)) (.p 1 12)))) K113_3
@[simp] def W113_4 := @Pl.wpe _ _ K113_4.eq_1
def K113_5 : C := .seq (.block 1 (.pl <| .st (.ext 6 9) <|
    .st (.act none (.als 6 none 4)) <|
    .st (.act none (.pget (some 7) (some 6) 4 2 none)) <|
    .st (.act none (.px (some 8) (.mv (.v 0)))) <|
    .st (.act none (.px (some 9) (.mv (.v 1)))) <|
    .st (.act none (.px (some 10) (.bin .sub (.v 9) (.c (.int .i64 1))))) <|
    .st (.act none (.ex (some 11) (.call fn_spec_l1Random [.v 8, .v 10]))) K113_4)) K113_2
@[simp] def W113_5 := @C.wpe _ _ K113_5.eq_1
def K113_6 : C := .cond 6 (.v 7) (.skip) (.exit 0)
@[simp] def W113_6 := @C.wpe _ _ K113_6.eq_1
def K113_7 : C := .seq (.seq (.pl <| .st (.ext 6 2) <|
    .st (.act none (.px (some 6) (.mv (.v 5)))) <|
    .st (.act none (.px (some 7) (.bin .gtr (.v 6) (.c (.int .i64 0))))) .done) K113_6) K113_5
@[simp] def W113_7 := @C.wpe _ _ K113_7.eq_1
def K113_8 : C := .block 0 (.loop 6 [3] K113_7)
@[simp] def W113_8 := @C.wpe _ _ K113_8.eq_1
def K113_9 : Pl := .st (.act none (.px (some 5) (.mv (.v 7)))) .done
@[simp] def W113_9 := @Pl.wpe _ _ K113_9.eq_1
def K113_10 : C := .seq (.seq (.pl <| .st (.ext 6 2) <|
    .st (.act none (.px (some 6) (.mv (.v 3)))) <|
    .st (.act none (.ex (some 7) (.call fn_spec_l1Arity [.v 6]))) K113_9) K113_8) K113_1
@[simp] def W113_10 := @C.wpe _ _ K113_10.eq_1
def K113_11 : C := .seq (.pl <| .st (.ext 6 2) <|
    .st (.act none (.px (some 6) (.mv (.v 3)))) <|
    .st (.act none (.px (some 7) (.build [.int .i64 0, .int .i64 0, .slice none 0 0] [(0, 1, .v 6)]))) <|
    .st (.act none (.pnew 4 (.c (.agg #[.int .i64 0, .int .i64 0, .slice none 0 0])) [])) <|
    .st (.act none (.pset none 4 0 3 (.v 7))) .done) K113_10
@[simp] def W113_11 := @C.wpe _ _ K113_11.eq_1
def K113_12 : Pl := .st (.act none (.px (some 3) (.mv (.v 8)))) .done
@[simp] def W113_12 := @Pl.wpe _ _ K113_12.eq_1
def K113_13 : Pl := .st (.act none (.ex (some 8) (.call fn_spec_l16Rd_num [.v 6, .v 7]))) K113_12
@[simp] def W113_13 := @Pl.wpe _ _ K113_13.eq_1
def K113_14 : C := .seq (.pl <| .st (.ext 6 3) <|
    .st (.act none (.px (some 6) (.mv (.v 0)))) <|
    .st (.act none (.ex (some 7) (.bls 1 7 [.int .i64 0] [(0, 1, .c (.int .i64 6)), (1, 1, .c (.int .i64 8)), (2, 1, .c (.int .i64 7)), (3, 1, .c (.int .i64 4)), (4, 1, .c (.int .i64 3)), (5, 1, .c (.int .i64 5)), (6, 1, .c (.int .i64 9))]))) K113_13) K113_11
@[simp] def W113_14 := @C.wpe _ _ K113_14.eq_1
def K113_15 : Pl := .st (.act none (.px (some 9) (.build [.int .i64 0, .int .i64 0, .slice none 0 0] [(0, 1, .c (.int .i64 2)), (1, 1, .v 8)]))) <|
    .st (.act none (.pset none 2 0 3 (.v 9))) .done
@[simp] def W113_15 := @Pl.wpe _ _ K113_15.eq_1
def K113_16 : Pl := .st (.act none (.ex (some 8) (.call fn_spec_l16Rd_num [.v 6, .v 7]))) K113_15
@[simp] def W113_16 := @Pl.wpe _ _ K113_16.eq_1
def K113_17 : C := .seq (.pl <| .st (.ext 6 4) <|
    .st (.act none (.px (some 6) (.mv (.v 0)))) <|
    .st (.act none (.ex (some 7) (.bls 1 4 [.int .i64 0] [(0, 1, .c (.int .i64 0)), (1, 1, .c (.int .i64 1)), (2, 1, .c (.int .i64 0)), (3, 1, .c (.int .i64 2))]))) K113_16) (.ret)
@[simp] def W113_17 := @C.wpe _ _ K113_17.eq_1
def K113_18 : Pl := .st (.act none (.px (some 8) (.build [.int .i64 0, .int .i64 0, .slice none 0 0] [(0, 1, .c (.int .i64 1)), (1, 1, .v 7)]))) <|
    .st (.act none (.pset none 2 0 3 (.v 8))) .done
@[simp] def W113_18 := @Pl.wpe _ _ K113_18.eq_1
def K113_19 : C := .seq (.pl <| .st (.ext 6 3) <|
    .st (.act none (.px (some 6) (.mv (.v 0)))) <|
    .st (.act none (.ex (some 7) (.call fn_spec_l16Rd_pick [.v 6, .c (.int .i64 4)]))) K113_18) (.ret)
@[simp] def W113_19 := @C.wpe _ _ K113_19.eq_1
def K113_20 : C := .cond 6 (.v 8) K113_19 (.skip)
@[simp] def W113_20 := @C.wpe _ _ K113_20.eq_1
def K113_21 : Pl := .st (.act none (.px (some 8) (.bin .eql (.v 7) (.c (.int .i64 0))))) .done
@[simp] def W113_21 := @Pl.wpe _ _ K113_21.eq_1
def K113_22 : C := .seq (.seq (.pl <| .st (.ext 6 3) <|
    .st (.act none (.px (some 6) (.mv (.v 0)))) <|
    .st (.act none (.ex (some 7) (.call fn_spec_l16Rd_pick [.v 6, .c (.int .i64 3)]))) K113_21) K113_20) K113_17
@[simp] def W113_22 := @C.wpe _ _ K113_22.eq_1
def K113_23 : C := .cond 6 (.v 12) K113_22 (.skip)
@[simp] def W113_23 := @C.wpe _ _ K113_23.eq_1
def K113_24 : Pl := .st (.act (some (.v 8, false)) (.px (some 11) (.bin .eql (.v 10) (.c (.int .i64 0))))) <|
    .st (.act none (.px (some 12) (.pick (.v 8) (.c (.bool true)) (.v 11)))) .done
@[simp] def W113_24 := @Pl.wpe _ _ K113_24.eq_1
def K113_25 : C := .seq (.seq (.pl <| .st (.ext 6 7) <|
    .st (.act none (.px (some 6) (.mv (.v 1)))) <|
    .st (.act none (.px (some 7) (.bin .lss (.v 6) (.c (.int .i64 2))))) <|
    .st (.act none (.px (some 8) (.mv (.v 7)))) <|
    .st (.act (some (.v 8, false)) (.px (some 9) (.mv (.v 0)))) <|
    .st (.act (some (.v 8, false)) (.ex (some 10) (.call fn_spec_l16Rd_pick [.v 9, .c (.int .i64 5)]))) K113_24) K113_23) K113_14
@[simp] def W113_25 := @C.wpe _ _ K113_25.eq_1
def B_spec_l1Random : C := .seq (.pl <| .st (.ext 6 0) <|
    .st (.act none (.pnew 2 (.c (.agg #[.int .i64 0, .int .i64 0, .slice none 0 0])) [])) .done) K113_25
@[simp] def WB_spec_l1Random := @C.wpe _ _ B_spec_l1Random.eq_1
def R_spec_l1Random : FIR := ⟨B_spec_l1Random, 6, [(2, some (some 3))]⟩
theorem IR_spec_l1Random : cfun Try.prog H_spec_l1Random Try.f113 = some R_spec_l1Random := by kernel_rfl
theorem EN_spec_l1Random {args : List Value} {h : Heap} {k : Value → Heap → Prop} (hargs : args.length = 2) (hw : B_spec_l1Random.wp Try.prog (retQ [(2, some (some 3))] k) (env0 args 6) h) : CallE Try.prog fn_spec_l1Random args h k := enter Try.func113 rfl IR_spec_l1Random hargs hw

def H_spec_l1Shape : Hint := ⟨[(0, false), (1, false), (2, true), (4, false), (5, false), (6, false), (19, false)], [[0, 3, 4, 6]]⟩
def K134_1 : C := .seq (.pl <| .st (.ext 7 0) <|
    .st (.act none (.px (some 3) (.mv (.c (.bool true))))) .done) (.ret)
@[simp] def W134_1 := @C.wpe _ _ K134_1.eq_1
def K134_2 : C := .pl <| .st (.ext 7 2) <|
    .st (.act none (.px (some 7) (.mv (.v 5)))) <|
    .st (.act none (.px (some 8) (.bin .add (.v 7) (.c (.int .i64 1))))) <|
    .st (.act none (.px (some 5) (.mv (.v 8)))) .done
@[simp] def W134_2 := @C.wpe _ _ K134_2.eq_1
def K134_3 : C := .seq (.pl <| .st (.ext 7 0) <|
    .st (.act none (.px (some 3) (.mv (.c (.bool false))))) .done) (.ret)
@[simp] def W134_3 := @C.wpe _ _ K134_3.eq_1
def K134_4 : C := .cond 7 (.v 15) K134_3 (.skip)
@[simp] def W134_4 := @C.wpe _ _ K134_4.eq_1
def K134_5 : Pl := .st (.act none (.px (some 15) (.un .not (.v 14)))) .done
@[simp] def W134_5 := @Pl.wpe _ _ K134_5.eq_1
def K134_6 : C := .seq (.block 2 (.seq (.pl <| .st (.ext 7 9) <|
    .st (.act none (.als 7 none 2)) <|
    .st (.act none (.pget (some 8) (some 7) 2 2 none)) <|
    .st (.act none (.px (some 9) (.mv (.v 5)))) <|
    .st (.act none (.px (some 10) (.ia 3 (.v 8) (.v 9)))) <|
    .st (.act none (.ld (some 11) (.v 10) (some 3))) <|
    .st (.act none (.px (some 12) (.mv (.v 1)))) <|
    .st (.act none (.px (some 13) (.bin .sub (.v 12) (.c (.int .i64 1))))) <|
    .st (.act none (.ex (some 14) (.call fn_spec_l1Shape [.v 11, .v 13]))) K134_5) K134_4)) K134_2
@[simp] def W134_6 := @C.wpe _ _ K134_6.eq_1
def K134_7 : C := .cond 7 (.v 11) (.skip) (.exit 1)
@[simp] def W134_7 := @C.wpe _ _ K134_7.eq_1
def K134_8 : C := .seq (.seq (.pl <| .st (.ext 7 5) <|
    .st (.act none (.px (some 7) (.mv (.v 5)))) <|
    .st (.act none (.als 8 none 2)) <|
    .st (.act none (.pget (some 9) (some 8) 2 2 none)) <|
    .st (.act none (.px (some 10) (.lenV (.v 9)))) <|
    .st (.act none (.px (some 11) (.bin .lss (.v 7) (.v 10)))) .done) K134_7) K134_6
@[simp] def W134_8 := @C.wpe _ _ K134_8.eq_1
def K134_9 : C := .block 1 (.loop 7 [0, 3, 4, 6] K134_8)
@[simp] def W134_9 := @C.wpe _ _ K134_9.eq_1
def K134_10 : C := .seq (.seq (.pl <| .st (.ext 7 0) <|
    .st (.act none (.px (some 5) (.mv (.c (.int .i64 0))))) .done) K134_9) K134_1
@[simp] def W134_10 := @C.wpe _ _ K134_10.eq_1
def K134_11 : C := .seq (.pl <| .st (.ext 7 0) <|
    .st (.act none (.px (some 3) (.mv (.c (.bool false))))) .done) (.ret)
@[simp] def W134_11 := @C.wpe _ _ K134_11.eq_1
def K134_12 : C := .cond 7 (.v 15) K134_11 (.skip)
@[simp] def W134_12 := @C.wpe _ _ K134_12.eq_1
def K134_13 : C := .seq (.seq (.pl <| .st (.ext 7 9) <|
    .st (.act none (.als 7 none 2)) <|
    .st (.act none (.pget (some 8) (some 7) 2 1 none)) <|
    .st (.act none (.px (some 9) (.bin .lss (.v 8) (.c (.int .i64 0))))) <|
    .st (.act none (.px (some 10) (.mv (.v 9)))) <|
    .st (.act (some (.v 10, false)) (.als 11 none 2)) <|
    .st (.act (some (.v 10, false)) (.pget (some 12) (some 11) 2 1 none)) <|
    .st (.act (some (.v 10, false)) (.px (some 13) (.mv (.v 4)))) <|
    .st (.act (some (.v 10, false)) (.px (some 14) (.bin .gtr (.v 12) (.v 13)))) <|
    .st (.act none (.px (some 15) (.pick (.v 10) (.c (.bool true)) (.v 14)))) .done) K134_12) K134_10
@[simp] def W134_13 := @C.wpe _ _ K134_13.eq_1
def K134_14 : C := .pl <| .st (.ext 7 0) <|
    .st (.act none (.px (some 4) (.mv (.c (.int .i64 3))))) .done
@[simp] def W134_14 := @C.wpe _ _ K134_14.eq_1
def K134_15 : C := .pl <| .st (.ext 7 0) <|
    .st (.act none (.px (some 4) (.mv (.c (.int .i64 2))))) .done
@[simp] def W134_15 := @C.wpe _ _ K134_15.eq_1
def K134_16 : C := .cond 7 (.v 8) K134_15 (.skip)
@[simp] def W134_16 := @C.wpe _ _ K134_16.eq_1
def K134_17 : C := .seq (.pl <| .st (.ext 7 2) <|
    .st (.act none (.px (some 7) (.bin .eql (.v 6) (.c (.int .i64 2))))) <|
    .st (.act none (.px (some 8) (.mv (.v 7)))) .done) K134_16
@[simp] def W134_17 := @C.wpe _ _ K134_17.eq_1
def K134_18 : C := .cond 7 (.v 8) K134_14 K134_17
@[simp] def W134_18 := @C.wpe _ _ K134_18.eq_1
def K134_19 : C := .block 0 (.seq (.pl <| .st (.ext 7 2) <|
    .st (.act none (.px (some 7) (.bin .eql (.v 6) (.c (.int .i64 1))))) <|
    .st (.act none (.px (some 8) (.mv (.v 7)))) .done) K134_18)
@[simp] def W134_19 := @C.wpe _ _ K134_19.eq_1
def K134_20 : C := .seq (.seq (.pl <| .st (.ext 7 1) <|
    .st (.act none (.als 7 none 2)) <|
    .st (.act none (.pget (some 6) (some 7) 2 0 none)) .done) K134_19) K134_13
@[simp] def W134_20 := @C.wpe _ _ K134_20.eq_1
def K134_21 : C := .seq (.pl <| .st (.ext 7 0) <|
    .st (.act none (.px (some 4) (.mv (.c (.int .i64 0))))) .done) K134_20
@[simp] def W134_21 := @C.wpe _ _ K134_21.eq_1
def K134_22 : C := .seq (.pl <| .st (.ext 7 0) <|
    .st (.act none (.px (some 3) (.mv (.c (.bool false))))) .done) (.ret)
@[simp] def W134_22 := @C.wpe _ _ K134_22.eq_1
def K134_23 : C := .cond 7 (.v 17) K134_22 (.skip)
@[simp] def W134_23 := @C.wpe _ _ K134_23.eq_1
def K134_24 : Pl := .st (.act (some (.v 9, false)) (.px (some 16) (.bin .neq (.v 12) (.v 15)))) <|
    .st (.act none (.px (some 17) (.pick (.v 9) (.c (.bool true)) (.v 16)))) .done
@[simp] def W134_24 := @Pl.wpe _ _ K134_24.eq_1
def K134_25 : C := .seq (.seq (.pl <| .st (.ext 7 11) <|
    .st (.act none (.px (some 7) (.mv (.v 1)))) <|
    .st (.act none (.px (some 8) (.bin .lss (.v 7) (.c (.int .i64 1))))) <|
    .st (.act none (.px (some 9) (.mv (.v 8)))) <|
    .st (.act (some (.v 9, false)) (.als 10 none 2)) <|
    .st (.act (some (.v 9, false)) (.pget (some 11) (some 10) 2 2 none)) <|
    .st (.act (some (.v 9, false)) (.px (some 12) (.lenV (.v 11)))) <|
    .st (.act (some (.v 9, false)) (.als 13 none 2)) <|
    .st (.act (some (.v 9, false)) (.pget (some 14) (some 13) 2 0 none)) <|
    .st (.act (some (.v 9, false)) (.ex (some 15) (.call fn_spec_l1Arity [.v 14]))) K134_24) K134_23) K134_21
@[simp] def W134_25 := @C.wpe _ _ K134_25.eq_1
def B_spec_l1Shape : C := .seq (.pl <| .st (.ext 7 0) <|
    .st (.act none (.pnew 2 (.v 0) [])) <|
    .st (.act none (.px (some 3) (.mv (.c (.bool false))))) .done) K134_25
@[simp] def WB_spec_l1Shape := @C.wpe _ _ B_spec_l1Shape.eq_1
def R_spec_l1Shape : FIR := ⟨B_spec_l1Shape, 7, [(3, none)]⟩
theorem IR_spec_l1Shape : cfun Try.prog H_spec_l1Shape Try.f134 = some R_spec_l1Shape := by kernel_rfl
theorem EN_spec_l1Shape {args : List Value} {h : Heap} {k : Value → Heap → Prop} (hargs : args.length = 2) (hw : B_spec_l1Shape.wp Try.prog (retQ [(3, none)] k) (env0 args 7) h) : CallE Try.prog fn_spec_l1Shape args h k := enter Try.func134 rfl IR_spec_l1Shape hargs hw

def H_spec_l1Subst : Hint := ⟨[(0, false), (1, false), (2, false), (3, true), (5, true), (6, true), (7, true), (8, false)], [[0, 2]]⟩
def K108_1 : C := .seq (.pl <| .st (.ext 8 1) <|
    .st (.act none (.pget (some 8) none 6 0 (some 3))) <|
    .st (.act none (.pset none 5 0 3 (.v 8))) .done) (.ret)
@[simp] def W108_1 := @C.wpe _ _ K108_1.eq_1
def K108_2 : C := .pl <| .st (.ext 8 2) <|
    .st (.act none (.px (some 8) (.mv (.v 7)))) <|
    .st (.act none (.px (some 9) (.bin .add (.v 8) (.c (.int .i64 1))))) <|
    .st (.act none (.px (some 7) (.mv (.v 9)))) .done
@[simp] def W108_2 := @C.wpe _ _ K108_2.eq_1
def K108_3 : Pl := .st (.act none (.als 20 none 6)) <|
    .st (.act none (.pset (some 20) 6 2 1 (.v 19))) .done
@[simp] def W108_3 := @Pl.wpe _ _ K108_3.eq_1
def K108_4 : Pl := .st (.act none (.psl 18 [.int .i64 0, .int .i64 0, .slice none 0 0] [(0, 3, .v 17)])) <|
    .st (.act none (.ex (some 19) (.app 40 3 [.int .i64 0, .int .i64 0, .slice none 0 0] (.o (.v 9)) (.p 1 18)))) K108_3
@[simp] def W108_4 := @Pl.wpe _ _ K108_4.eq_1
def K108_5 : C := .seq (.block 1 (.pl <| .st (.ext 8 13) <|
    .st (.act none (.als 8 none 6)) <|
    .st (.act none (.pget (some 9) (some 8) 6 2 none)) <|
    .st (.act none (.als 10 none 3)) <|
    .st (.act none (.pget (some 11) (some 10) 3 2 none)) <|
    .st (.act none (.px (some 12) (.mv (.v 7)))) <|
    .st (.act none (.px (some 13) (.ia 3 (.v 11) (.v 12)))) <|
    .st (.act none (.ld (some 14) (.v 13) (some 3))) <|
    .st (.act none (.px (some 15) (.mv (.v 1)))) <|
    .st (.act none (.pget (some 16) none 4 0 (some 3))) <|
    .st (.act none (.ex (some 17) (.call fn_spec_l1Subst [.v 14, .v 15, .v 16]))) K108_4)) K108_2
@[simp] def W108_5 := @C.wpe _ _ K108_5.eq_1
def K108_6 : C := .cond 8 (.v 12) (.skip) (.exit 0)
@[simp] def W108_6 := @C.wpe _ _ K108_6.eq_1
def K108_7 : C := .seq (.seq (.pl <| .st (.ext 8 5) <|
    .st (.act none (.px (some 8) (.mv (.v 7)))) <|
    .st (.act none (.als 9 none 3)) <|
    .st (.act none (.pget (some 10) (some 9) 3 2 none)) <|
    .st (.act none (.px (some 11) (.lenV (.v 10)))) <|
    .st (.act none (.px (some 12) (.bin .lss (.v 8) (.v 11)))) .done) K108_6) K108_5
@[simp] def W108_7 := @C.wpe _ _ K108_7.eq_1
def K108_8 : C := .block 0 (.loop 8 [0, 2] K108_7)
@[simp] def W108_8 := @C.wpe _ _ K108_8.eq_1
def K108_9 : C := .seq (.seq (.pl <| .st (.ext 8 0) <|
    .st (.act none (.px (some 7) (.mv (.c (.int .i64 0))))) .done) K108_8) K108_1
@[simp] def W108_9 := @C.wpe _ _ K108_9.eq_1
def K108_10 : C := .seq (.pl <| .st (.ext 8 5) <|
    .st (.act none (.als 8 none 3)) <|
    .st (.act none (.pget (some 9) (some 8) 3 0 none)) <|
    .st (.act none (.als 10 none 3)) <|
    .st (.act none (.pget (some 11) (some 10) 3 1 none)) <|
    .st (.act none (.px (some 12) (.build [.int .i64 0, .int .i64 0, .slice none 0 0] [(0, 1, .v 9), (1, 1, .v 11)]))) <|
    .st (.act none (.pnew 6 (.c (.agg #[.int .i64 0, .int .i64 0, .slice none 0 0])) [])) <|
    .st (.act none (.pset none 6 0 3 (.v 12))) .done) K108_9
@[simp] def W108_10 := @C.wpe _ _ K108_10.eq_1
def K108_11 : Pl := .st (.act none (.pset none 5 0 3 (.v 10))) .done
@[simp] def W108_11 := @Pl.wpe _ _ K108_11.eq_1
def K108_12 : C := .seq (.pl <| .st (.ext 8 3) <|
    .st (.act none (.pget (some 8) none 4 0 (some 3))) <|
    .st (.act none (.px (some 9) (.build [.int .i64 0, .int .i64 0, .slice none 0 0] []))) <|
    .st (.act none (.ex (some 10) (.call fn_spec_l1Subst [.v 8, .c (.int .i64 (-1)), .v 9]))) K108_11) (.ret)
@[simp] def W108_12 := @C.wpe _ _ K108_12.eq_1
def K108_13 : C := .cond 8 (.v 16) K108_12 (.skip)
@[simp] def W108_13 := @C.wpe _ _ K108_13.eq_1
def K108_14 : C := .seq (.seq (.pl <| .st (.ext 8 9) <|
    .st (.act none (.als 8 none 3)) <|
    .st (.act none (.pget (some 9) (some 8) 3 0 none)) <|
    .st (.act none (.px (some 10) (.bin .eql (.v 9) (.c (.int .i64 2))))) <|
    .st (.act none (.px (some 11) (.mv (.v 10)))) <|
    .st (.act (some (.v 11, true)) (.als 12 none 3)) <|
    .st (.act (some (.v 11, true)) (.pget (some 13) (some 12) 3 1 none)) <|
    .st (.act (some (.v 11, true)) (.px (some 14) (.mv (.v 1)))) <|
    .st (.act (some (.v 11, true)) (.px (some 15) (.bin .eql (.v 13) (.v 14)))) <|
    .st (.act none (.px (some 16) (.pick (.v 11) (.v 15) (.c (.bool false))))) .done) K108_13) K108_10
@[simp] def W108_14 := @C.wpe _ _ K108_14.eq_1
def B_spec_l1Subst : C := .seq (.pl <| .st (.ext 8 0) <|
    .st (.act none (.pnew 3 (.v 0) [])) <|
    .st (.act none (.pnew 4 (.v 2) [])) <|
    .st (.act none (.pnew 5 (.c (.agg #[.int .i64 0, .int .i64 0, .slice none 0 0])) [])) .done) K108_14
@[simp] def WB_spec_l1Subst := @C.wpe _ _ B_spec_l1Subst.eq_1
def R_spec_l1Subst : FIR := ⟨B_spec_l1Subst, 8, [(5, some (some 3))]⟩
theorem IR_spec_l1Subst : cfun Try.prog H_spec_l1Subst Try.f108 = some R_spec_l1Subst := by kernel_rfl
theorem EN_spec_l1Subst {args : List Value} {h : Heap} {k : Value → Heap → Prop} (hargs : args.length = 3) (hw : B_spec_l1Subst.wp Try.prog (retQ [(5, some (some 3))] k) (env0 args 8) h) : CallE Try.prog fn_spec_l1Subst args h k := enter Try.func108 rfl IR_spec_l1Subst hargs hw

def H_spec_l1Vals : Hint := ⟨[(0, false), (2, false), (3, false)], [[1]]⟩
def K70_1 : C := .seq (.pl <| .st (.ext 3 3) <|
    .st (.act none (.px (some 3) (.mv (.v 0)))) <|
    .st (.act none (.px (some 4) (.lenV (.v 3)))) <|
    .st (.act none (.px (some 5) (.bin .eql (.v 4) (.c (.int .i64 3))))) <|
    .st (.act none (.px (some 1) (.mv (.v 5)))) .done) (.ret)
@[simp] def W70_1 := @C.wpe _ _ K70_1.eq_1
def K70_2 : C := .pl <| .st (.ext 3 2) <|
    .st (.act none (.px (some 3) (.mv (.v 2)))) <|
    .st (.act none (.px (some 4) (.bin .add (.v 3) (.c (.int .i64 1))))) <|
    .st (.act none (.px (some 2) (.mv (.v 4)))) .done
@[simp] def W70_2 := @C.wpe _ _ K70_2.eq_1
def K70_3 : C := .seq (.pl <| .st (.ext 3 0) <|
    .st (.act none (.px (some 1) (.mv (.c (.bool false))))) .done) (.ret)
@[simp] def W70_3 := @C.wpe _ _ K70_3.eq_1
def K70_4 : C := .cond 3 (.v 14) K70_3 (.skip)
@[simp] def W70_4 := @C.wpe _ _ K70_4.eq_1
def K70_5 : C := .seq (.block 1 (.seq (.pl <| .st (.ext 3 12) <|
    .st (.act none (.px (some 3) (.mv (.v 0)))) <|
    .st (.act none (.px (some 4) (.mv (.v 2)))) <|
    .st (.act none (.px (some 5) (.ia 1 (.v 3) (.v 4)))) <|
    .st (.act none (.ld (some 6) (.v 5) none)) <|
    .st (.act none (.px (some 7) (.bin .lss (.v 6) (.c (.int .i64 0))))) <|
    .st (.act none (.px (some 8) (.mv (.v 7)))) <|
    .st (.act (some (.v 8, false)) (.px (some 9) (.mv (.v 0)))) <|
    .st (.act (some (.v 8, false)) (.px (some 10) (.mv (.v 2)))) <|
    .st (.act (some (.v 8, false)) (.px (some 11) (.ia 1 (.v 9) (.v 10)))) <|
    .st (.act (some (.v 8, false)) (.ld (some 12) (.v 11) none)) <|
    .st (.act (some (.v 8, false)) (.px (some 13) (.bin .gtr (.v 12) (.c (.int .i64 3))))) <|
    .st (.act none (.px (some 14) (.pick (.v 8) (.c (.bool true)) (.v 13)))) .done) K70_4)) K70_2
@[simp] def W70_5 := @C.wpe _ _ K70_5.eq_1
def K70_6 : C := .cond 3 (.v 6) (.skip) (.exit 0)
@[simp] def W70_6 := @C.wpe _ _ K70_6.eq_1
def K70_7 : C := .seq (.seq (.pl <| .st (.ext 3 4) <|
    .st (.act none (.px (some 3) (.mv (.v 2)))) <|
    .st (.act none (.px (some 4) (.mv (.v 0)))) <|
    .st (.act none (.px (some 5) (.lenV (.v 4)))) <|
    .st (.act none (.px (some 6) (.bin .lss (.v 3) (.v 5)))) .done) K70_6) K70_5
@[simp] def W70_7 := @C.wpe _ _ K70_7.eq_1
def K70_8 : C := .block 0 (.loop 3 [1] K70_7)
@[simp] def W70_8 := @C.wpe _ _ K70_8.eq_1
def K70_9 : C := .seq (.seq (.pl <| .st (.ext 3 0) <|
    .st (.act none (.px (some 2) (.mv (.c (.int .i64 0))))) .done) K70_8) K70_1
@[simp] def W70_9 := @C.wpe _ _ K70_9.eq_1
def B_spec_l1Vals : C := .seq (.pl <| .st (.ext 3 0) <|
    .st (.act none (.px (some 1) (.mv (.c (.bool false))))) .done) K70_9
@[simp] def WB_spec_l1Vals := @C.wpe _ _ B_spec_l1Vals.eq_1
def R_spec_l1Vals : FIR := ⟨B_spec_l1Vals, 3, [(1, none)]⟩
theorem IR_spec_l1Vals : cfun Try.prog H_spec_l1Vals Try.f70 = some R_spec_l1Vals := by kernel_rfl
theorem EN_spec_l1Vals {args : List Value} {h : Heap} {k : Value → Heap → Prop} (hargs : args.length = 1) (hw : B_spec_l1Vals.wp Try.prog (retQ [(1, none)] k) (env0 args 3) h) : CallE Try.prog fn_spec_l1Vals args h k := enter Try.func70 rfl IR_spec_l1Vals hargs hw

def H_spec_l2Copy : Hint := ⟨[(0, false), (1, true), (2, true), (3, true), (4, false), (5, true), (6, false), (7, true)], [[0, 5, 6, 7], [0, 7]]⟩
def K62_1 : C := .seq (.pl <| .st (.ext 8 1) <|
    .st (.act none (.pget (some 8) none 3 0 (some 2))) <|
    .st (.act none (.pset none 2 0 2 (.v 8))) .done) (.ret)
@[simp] def W62_1 := @C.wpe _ _ K62_1.eq_1
def K62_2 : C := .pl <| .st (.ext 8 2) <|
    .st (.act none (.px (some 8) (.mv (.v 4)))) <|
    .st (.act none (.px (some 9) (.bin .add (.v 8) (.c (.int .i64 1))))) <|
    .st (.act none (.px (some 4) (.mv (.v 9)))) .done
@[simp] def W62_2 := @C.wpe _ _ K62_2.eq_1
def K62_3 : Pl := .st (.act none (.als 13 none 3)) <|
    .st (.act none (.pset (some 13) 3 1 1 (.v 12))) .done
@[simp] def W62_3 := @Pl.wpe _ _ K62_3.eq_1
def K62_4 : C := .pl <| .st (.ext 8 6) <|
    .st (.act none (.als 8 none 3)) <|
    .st (.act none (.pget (some 9) (some 8) 3 1 none)) <|
    .st (.act none (.pget (some 10) none 5 0 (some 2))) <|
    .st (.act none (.psl 11 [.int .i64 0, .slice none 0 0] [(0, 2, .v 10)])) <|
    .st (.act none (.ex (some 12) (.app 32 2 [.int .i64 0, .slice none 0 0] (.o (.v 9)) (.p 1 11)))) K62_3
@[simp] def W62_4 := @C.wpe _ _ K62_4.eq_1
def K62_5 : C := .pl <| .st (.ext 8 2) <|
    .st (.act none (.px (some 8) (.mv (.v 6)))) <|
    .st (.act none (.px (some 9) (.bin .add (.v 8) (.c (.int .i64 1))))) <|
    .st (.act none (.px (some 6) (.mv (.v 9)))) .done
@[simp] def W62_5 := @C.wpe _ _ K62_5.eq_1
def K62_6 : Pl := .st (.act none (.als 13 none 5)) <|
    .st (.act none (.pset (some 13) 5 1 1 (.v 12))) .done
@[simp] def W62_6 := @Pl.wpe _ _ K62_6.eq_1
def K62_7 : C := .pl <| .st (.ext 8 6) <|
    .st (.act none (.als 8 none 5)) <|
    .st (.act none (.pget (some 9) (some 8) 5 1 none)) <|
    .st (.act none (.pget (some 10) none 7 0 (some 10))) <|
    .st (.act none (.psl 11 [.int .i64 0, .int .i64 0, .int .i64 0, .int .i64 0, .slice none 0 0, .int .i64 0, .int .i64 0, .int .i64 0, .slice none 0 0, .int .i64 0] [(0, 10, .v 10)])) <|
    .st (.act none (.ex (some 12) (.app 112 10 [.int .i64 0, .int .i64 0, .int .i64 0, .int .i64 0, .slice none 0 0, .int .i64 0, .int .i64 0, .int .i64 0, .slice none 0 0, .int .i64 0] (.o (.v 9)) (.p 1 11)))) K62_6
@[simp] def W62_7 := @C.wpe _ _ K62_7.eq_1
def K62_8 : Pl := .st (.act none (.als 12 none 7)) <|
    .st (.act none (.pset (some 12) 7 6 3 (.v 11))) .done
@[simp] def W62_8 := @Pl.wpe _ _ K62_8.eq_1
def K62_9 : C := .seq (.pl <| .st (.ext 8 5) <|
    .st (.act none (.als 8 none 7)) <|
    .st (.act none (.pget (some 9) (some 8) 7 6 (some 3))) <|
    .st (.act none (.px (some 10) (.build [.int .i64 0, .int .i64 0, .slice none 0 0] []))) <|
    .st (.act none (.ex (some 11) (.call fn_spec_l1Subst [.v 9, .c (.int .i64 (-1)), .v 10]))) K62_8) K62_7
@[simp] def W62_9 := @C.wpe _ _ K62_9.eq_1
def K62_10 : Pl := .st (.act none (.als 12 none 7)) <|
    .st (.act none (.pset (some 12) 7 2 3 (.v 11))) .done
@[simp] def W62_10 := @Pl.wpe _ _ K62_10.eq_1
def K62_11 : C := .seq (.pl <| .st (.ext 8 5) <|
    .st (.act none (.als 8 none 7)) <|
    .st (.act none (.pget (some 9) (some 8) 7 2 (some 3))) <|
    .st (.act none (.px (some 10) (.build [.int .i64 0, .int .i64 0, .slice none 0 0] []))) <|
    .st (.act none (.ex (some 11) (.call fn_spec_l1Subst [.v 9, .c (.int .i64 (-1)), .v 10]))) K62_10) K62_9
@[simp] def W62_11 := @C.wpe _ _ K62_11.eq_1
def K62_12 : C := .seq (.block 3 (.seq (.pl <| .st (.ext 8 9) <|
    .st (.act none (.als 8 none 1)) <|
    .st (.act none (.pget (some 9) (some 8) 1 1 none)) <|
    .st (.act none (.px (some 10) (.mv (.v 4)))) <|
    .st (.act none (.px (some 11) (.ia 2 (.v 9) (.v 10)))) <|
    .st (.act none (.px (some 12) (.fa 1 (.v 11)))) <|
    .st (.act none (.ld (some 13) (.v 12) none)) <|
    .st (.act none (.px (some 14) (.mv (.v 6)))) <|
    .st (.act none (.px (some 15) (.ia 10 (.v 13) (.v 14)))) <|
    .st (.act none (.ld (some 16) (.v 15) (some 10))) <|
    .st (.act none (.pnew 7 (.c (.agg #[.int .i64 0, .int .i64 0, .int .i64 0, .int .i64 0, .slice none 0 0, .int .i64 0, .int .i64 0, .int .i64 0, .slice none 0 0, .int .i64 0])) [])) <|
    .st (.act none (.pset none 7 0 10 (.v 16))) .done) K62_11)) K62_5
@[simp] def W62_12 := @C.wpe _ _ K62_12.eq_1
def K62_13 : C := .cond 8 (.v 16) (.skip) (.exit 2)
@[simp] def W62_13 := @C.wpe _ _ K62_13.eq_1
def K62_14 : C := .seq (.seq (.pl <| .st (.ext 8 9) <|
    .st (.act none (.px (some 8) (.mv (.v 6)))) <|
    .st (.act none (.als 9 none 1)) <|
    .st (.act none (.pget (some 10) (some 9) 1 1 none)) <|
    .st (.act none (.px (some 11) (.mv (.v 4)))) <|
    .st (.act none (.px (some 12) (.ia 2 (.v 10) (.v 11)))) <|
    .st (.act none (.px (some 13) (.fa 1 (.v 12)))) <|
    .st (.act none (.ld (some 14) (.v 13) none)) <|
    .st (.act none (.px (some 15) (.lenV (.v 14)))) <|
    .st (.act none (.px (some 16) (.bin .lss (.v 8) (.v 15)))) .done) K62_13) K62_12
@[simp] def W62_14 := @C.wpe _ _ K62_14.eq_1
def K62_15 : C := .block 2 (.loop 8 [0, 7] K62_14)
@[simp] def W62_15 := @C.wpe _ _ K62_15.eq_1
def K62_16 : C := .seq (.seq (.pl <| .st (.ext 8 0) <|
    .st (.act none (.px (some 6) (.mv (.c (.int .i64 0))))) .done) K62_15) K62_4
@[simp] def W62_16 := @C.wpe _ _ K62_16.eq_1
def K62_17 : C := .seq (.block 1 (.seq (.pl <| .st (.ext 8 7) <|
    .st (.act none (.als 8 none 1)) <|
    .st (.act none (.pget (some 9) (some 8) 1 1 none)) <|
    .st (.act none (.px (some 10) (.mv (.v 4)))) <|
    .st (.act none (.px (some 11) (.ia 2 (.v 9) (.v 10)))) <|
    .st (.act none (.px (some 12) (.fa 0 (.v 11)))) <|
    .st (.act none (.ld (some 13) (.v 12) none)) <|
    .st (.act none (.px (some 14) (.build [.int .i64 0, .slice none 0 0] [(0, 1, .v 13)]))) <|
    .st (.act none (.pnew 5 (.c (.agg #[.int .i64 0, .slice none 0 0])) [])) <|
    .st (.act none (.pset none 5 0 2 (.v 14))) .done) K62_16)) K62_2
@[simp] def W62_17 := @C.wpe _ _ K62_17.eq_1
def K62_18 : C := .cond 8 (.v 12) (.skip) (.exit 0)
@[simp] def W62_18 := @C.wpe _ _ K62_18.eq_1
def K62_19 : C := .seq (.seq (.pl <| .st (.ext 8 5) <|
    .st (.act none (.px (some 8) (.mv (.v 4)))) <|
    .st (.act none (.als 9 none 1)) <|
    .st (.act none (.pget (some 10) (some 9) 1 1 none)) <|
    .st (.act none (.px (some 11) (.lenV (.v 10)))) <|
    .st (.act none (.px (some 12) (.bin .lss (.v 8) (.v 11)))) .done) K62_18) K62_17
@[simp] def W62_19 := @C.wpe _ _ K62_19.eq_1
def K62_20 : C := .block 0 (.loop 8 [0, 5, 6, 7] K62_19)
@[simp] def W62_20 := @C.wpe _ _ K62_20.eq_1
def K62_21 : C := .seq (.seq (.pl <| .st (.ext 8 0) <|
    .st (.act none (.px (some 4) (.mv (.c (.int .i64 0))))) .done) K62_20) K62_1
@[simp] def W62_21 := @C.wpe _ _ K62_21.eq_1
def K62_22 : Pl := .st (.act none (.px (some 12) (.build [.slice none 0 0, .slice none 0 0] [(0, 1, .v 11)]))) <|
    .st (.act none (.pnew 3 (.c (.agg #[.slice none 0 0, .slice none 0 0])) [])) <|
    .st (.act none (.pset none 3 0 2 (.v 12))) .done
@[simp] def W62_22 := @Pl.wpe _ _ K62_22.eq_1
def K62_23 : C := .seq (.pl <| .st (.ext 8 5) <|
    .st (.act none (.psl 8 [] [])) <|
    .st (.act none (.als 9 none 1)) <|
    .st (.act none (.pget (some 10) (some 9) 1 0 none)) <|
    .st (.act none (.ex (some 11) (.app 8 1 [.int .i64 0] (.p 0 8) (.o (.v 10))))) K62_22) K62_21
@[simp] def W62_23 := @C.wpe _ _ K62_23.eq_1
def B_spec_l2Copy : C := .seq (.pl <| .st (.ext 8 0) <|
    .st (.act none (.pnew 1 (.v 0) [])) <|
    .st (.act none (.pnew 2 (.c (.agg #[.slice none 0 0, .slice none 0 0])) [])) .done) K62_23
@[simp] def WB_spec_l2Copy := @C.wpe _ _ B_spec_l2Copy.eq_1
def R_spec_l2Copy : FIR := ⟨B_spec_l2Copy, 8, [(2, some (some 2))]⟩
theorem IR_spec_l2Copy : cfun Try.prog H_spec_l2Copy Try.f62 = some R_spec_l2Copy := by kernel_rfl
theorem EN_spec_l2Copy {args : List Value} {h : Heap} {k : Value → Heap → Prop} (hargs : args.length = 1) (hw : B_spec_l2Copy.wp Try.prog (retQ [(2, some (some 2))] k) (env0 args 8) h) : CallE Try.prog fn_spec_l2Copy args h k := enter Try.func62 rfl IR_spec_l2Copy hargs hw

def H_spec_l2DrawEdge : Hint := ⟨[(0, false), (1, false), (4, true), (5, true), (6, true), (7, true), (29, false)], []⟩
def K79_1 : C := .seq (.pl <| .st (.ext 7 1) <|
    .st (.act none (.pget (some 7) none 3 0 (some 10))) <|
    .st (.act none (.pset none 2 0 10 (.v 7))) .done) (.ret)
@[simp] def W79_1 := @C.wpe _ _ K79_1.eq_1
def K79_2 : Pl := .st (.act none (.als 10 none 3)) <|
    .st (.act none (.pset (some 10) 3 9 1 (.v 9))) .done
@[simp] def W79_2 := @Pl.wpe _ _ K79_2.eq_1
def K79_3 : Pl := .st (.act none (.ex (some 9) (.call fn_spec_l16Rd_num [.v 7, .v 8]))) K79_2
@[simp] def W79_3 := @Pl.wpe _ _ K79_3.eq_1
def K79_4 : C := .pl <| .st (.ext 7 4) <|
    .st (.act none (.px (some 7) (.mv (.v 0)))) <|
    .st (.act none (.ex (some 8) (.bls 1 6 [.int .i64 0] [(0, 1, .c (.int .i64 1)), (1, 1, .c (.int .i64 (-1))), (2, 1, .c (.int .i64 1)), (3, 1, .c (.int .i64 (-1))), (4, 1, .c (.int .i64 2)), (5, 1, .c (.int .i64 (-2)))]))) K79_3
@[simp] def W79_4 := @C.wpe _ _ K79_4.eq_1
def K79_5 : C := .cond 7 (.v 9) K79_4 (.skip)
@[simp] def W79_5 := @C.wpe _ _ K79_5.eq_1
def K79_6 : Pl := .st (.act none (.px (some 9) (.bin .eql (.v 8) (.c (.int .i64 0))))) .done
@[simp] def W79_6 := @Pl.wpe _ _ K79_6.eq_1
def K79_7 : C := .seq (.seq (.pl <| .st (.ext 7 3) <|
    .st (.act none (.px (some 7) (.mv (.v 0)))) <|
    .st (.act none (.ex (some 8) (.call fn_spec_l16Rd_pick [.v 7, .c (.int .i64 4)]))) K79_6) K79_5) K79_1
@[simp] def W79_7 := @C.wpe _ _ K79_7.eq_1
def K79_8 : Pl := .st (.act none (.px (some 9) (.build [.int .i64 0, .int .i64 0, .slice none 0 0] [(0, 1, .c (.int .i64 1)), (1, 1, .v 8)]))) <|
    .st (.act none (.als 10 none 3)) <|
    .st (.act none (.pset (some 10) 3 6 3 (.v 9))) .done
@[simp] def W79_8 := @Pl.wpe _ _ K79_8.eq_1
def K79_9 : C := .pl <| .st (.ext 7 4) <|
    .st (.act none (.px (some 7) (.mv (.v 0)))) <|
    .st (.act none (.ex (some 8) (.call fn_spec_l16Rd_pick [.v 7, .c (.int .i64 3)]))) K79_8
@[simp] def W79_9 := @C.wpe _ _ K79_9.eq_1
def K79_10 : Pl := .st (.act none (.px (some 10) (.build [.int .i64 0, .int .i64 0, .slice none 0 0] [(0, 1, .c (.int .i64 8)), (2, 1, .v 9)]))) <|
    .st (.act none (.als 11 none 3)) <|
    .st (.act none (.pset (some 11) 3 6 3 (.v 10))) .done
@[simp] def W79_10 := @Pl.wpe _ _ K79_10.eq_1
def K79_11 : C := .pl <| .st (.ext 7 5) <|
    .st (.act none (.pget (some 7) none 4 0 (some 3))) <|
    .st (.act none (.pget (some 8) none 5 0 (some 3))) <|
    .st (.act none (.ex (some 9) (.bls 3 2 [.int .i64 0, .int .i64 0, .slice none 0 0] [(0, 3, .v 7), (3, 3, .v 8)]))) K79_10
@[simp] def W79_11 := @C.wpe _ _ K79_11.eq_1
def K79_12 : Pl := .st (.act none (.px (some 10) (.build [.int .i64 0, .int .i64 0, .slice none 0 0] [(0, 1, .c (.int .i64 9)), (2, 1, .v 9)]))) <|
    .st (.act none (.als 11 none 3)) <|
    .st (.act none (.pset (some 11) 3 6 3 (.v 10))) .done
@[simp] def W79_12 := @Pl.wpe _ _ K79_12.eq_1
def K79_13 : C := .pl <| .st (.ext 7 5) <|
    .st (.act none (.pget (some 7) none 5 0 (some 3))) <|
    .st (.act none (.pget (some 8) none 4 0 (some 3))) <|
    .st (.act none (.ex (some 9) (.bls 3 2 [.int .i64 0, .int .i64 0, .slice none 0 0] [(0, 3, .v 7), (3, 3, .v 8)]))) K79_12
@[simp] def W79_13 := @C.wpe _ _ K79_13.eq_1
def K79_14 : Pl := .st (.act none (.als 9 none 3)) <|
    .st (.act none (.pset (some 9) 3 6 3 (.v 8))) .done
@[simp] def W79_14 := @Pl.wpe _ _ K79_14.eq_1
def K79_15 : C := .pl <| .st (.ext 7 3) <|
    .st (.act none (.px (some 7) (.mv (.v 0)))) <|
    .st (.act none (.ex (some 8) (.call fn_spec_l1Expr [.v 7]))) K79_14
@[simp] def W79_15 := @C.wpe _ _ K79_15.eq_1
def K79_16 : C := .cond 7 (.v 8) K79_13 K79_15
@[simp] def W79_16 := @C.wpe _ _ K79_16.eq_1
def K79_17 : C := .seq (.pl <| .st (.ext 7 2) <|
    .st (.act none (.px (some 7) (.bin .eql (.v 6) (.c (.int .i64 2))))) <|
    .st (.act none (.px (some 8) (.mv (.v 7)))) .done) K79_16
@[simp] def W79_17 := @C.wpe _ _ K79_17.eq_1
def K79_18 : C := .cond 7 (.v 8) K79_11 K79_17
@[simp] def W79_18 := @C.wpe _ _ K79_18.eq_1
def K79_19 : C := .seq (.pl <| .st (.ext 7 2) <|
    .st (.act none (.px (some 7) (.bin .eql (.v 6) (.c (.int .i64 1))))) <|
    .st (.act none (.px (some 8) (.mv (.v 7)))) .done) K79_18
@[simp] def W79_19 := @C.wpe _ _ K79_19.eq_1
def K79_20 : C := .cond 7 (.v 8) K79_9 K79_19
@[simp] def W79_20 := @C.wpe _ _ K79_20.eq_1
def K79_21 : C := .block 0 (.seq (.pl <| .st (.ext 7 2) <|
    .st (.act none (.px (some 7) (.bin .eql (.v 6) (.c (.int .i64 0))))) <|
    .st (.act none (.px (some 8) (.mv (.v 7)))) .done) K79_20)
@[simp] def W79_21 := @C.wpe _ _ K79_21.eq_1
def K79_22 : C := .seq (.pl <| .st (.ext 7 1) <|
    .st (.act none (.px (some 7) (.mv (.v 0)))) <|
    .st (.act none (.ex (some 6) (.call fn_spec_l16Rd_pick [.v 7, .c (.int .i64 4)]))) .done) K79_21
@[simp] def W79_22 := @C.wpe _ _ K79_22.eq_1
def K79_23 : C := .seq (.pl <| .st (.ext 7 1) <|
    .st (.act none (.px (some 7) (.build [.int .i64 0, .int .i64 0, .slice none 0 0] [(0, 1, .c (.int .i64 1)), (1, 1, .c (.int .i64 1))]))) <|
    .st (.act none (.pnew 5 (.c (.agg #[.int .i64 0, .int .i64 0, .slice none 0 0])) [])) <|
    .st (.act none (.pset none 5 0 3 (.v 7))) .done) K79_22
@[simp] def W79_23 := @C.wpe _ _ K79_23.eq_1
def K79_24 : C := .seq (.pl <| .st (.ext 7 3) <|
    .st (.act none (.als 7 none 3)) <|
    .st (.act none (.pget (some 8) (some 7) 3 5 none)) <|
    .st (.act none (.px (some 9) (.build [.int .i64 0, .int .i64 0, .slice none 0 0] [(0, 1, .c (.int .i64 2)), (1, 1, .v 8)]))) <|
    .st (.act none (.pnew 4 (.c (.agg #[.int .i64 0, .int .i64 0, .slice none 0 0])) [])) <|
    .st (.act none (.pset none 4 0 3 (.v 9))) .done) K79_23
@[simp] def W79_24 := @C.wpe _ _ K79_24.eq_1
def K79_25 : Pl := .st (.act none (.als 10 none 3)) <|
    .st (.act none (.pset (some 10) 3 5 1 (.v 9))) .done
@[simp] def W79_25 := @Pl.wpe _ _ K79_25.eq_1
def K79_26 : Pl := .st (.act none (.ex (some 9) (.call fn_spec_l16Rd_num [.v 7, .v 8]))) K79_25
@[simp] def W79_26 := @Pl.wpe _ _ K79_26.eq_1
def K79_27 : C := .seq (.pl <| .st (.ext 7 4) <|
    .st (.act none (.px (some 7) (.mv (.v 0)))) <|
    .st (.act none (.ex (some 8) (.bls 1 4 [.int .i64 0] [(0, 1, .c (.int .i64 0)), (1, 1, .c (.int .i64 1)), (2, 1, .c (.int .i64 0)), (3, 1, .c (.int .i64 2))]))) K79_26) K79_24
@[simp] def W79_27 := @C.wpe _ _ K79_27.eq_1
def K79_28 : C := .cond 7 (.v 9) K79_27 (.skip)
@[simp] def W79_28 := @C.wpe _ _ K79_28.eq_1
def K79_29 : Pl := .st (.act none (.px (some 9) (.bin .gtr (.v 8) (.c (.int .i64 0))))) .done
@[simp] def W79_29 := @Pl.wpe _ _ K79_29.eq_1
def K79_30 : C := .seq (.seq (.pl <| .st (.ext 7 3) <|
    .st (.act none (.px (some 7) (.mv (.v 0)))) <|
    .st (.act none (.ex (some 8) (.call fn_spec_l16Rd_pick [.v 7, .c (.int .i64 3)]))) K79_29) K79_28) K79_7
@[simp] def W79_30 := @C.wpe _ _ K79_30.eq_1
def K79_31 : Pl := .st (.act none (.px (some 15) (.build [.int .i64 0, .int .i64 0, .int .i64 0, .int .i64 0, .slice none 0 0, .int .i64 0, .int .i64 0, .int .i64 0, .slice none 0 0, .int .i64 0] [(0, 1, .v 9), (1, 1, .v 12), (2, 3, .v 14), (5, 1, .c (.int .i64 (-1)))]))) <|
    .st (.act none (.pnew 3 (.c (.agg #[.int .i64 0, .int .i64 0, .int .i64 0, .int .i64 0, .slice none 0 0, .int .i64 0, .int .i64 0, .int .i64 0, .slice none 0 0, .int .i64 0])) [])) <|
    .st (.act none (.pset none 3 0 10 (.v 15))) .done
@[simp] def W79_31 := @Pl.wpe _ _ K79_31.eq_1
def K79_32 : Pl := .st (.act none (.px (some 13) (.mv (.v 0)))) <|
    .st (.act none (.ex (some 14) (.call fn_spec_l2Guard [.v 13]))) K79_31
@[simp] def W79_32 := @Pl.wpe _ _ K79_32.eq_1
def K79_33 : Pl := .st (.act none (.px (some 10) (.mv (.v 0)))) <|
    .st (.act none (.px (some 11) (.mv (.v 1)))) <|
    .st (.act none (.ex (some 12) (.call fn_spec_l16Rd_pick [.v 10, .v 11]))) K79_32
@[simp] def W79_33 := @Pl.wpe _ _ K79_33.eq_1
def K79_34 : C := .seq (.pl <| .st (.ext 7 9) <|
    .st (.act none (.px (some 7) (.mv (.v 0)))) <|
    .st (.act none (.px (some 8) (.mv (.v 1)))) <|
    .st (.act none (.ex (some 9) (.call fn_spec_l16Rd_pick [.v 7, .v 8]))) K79_33) K79_30
@[simp] def W79_34 := @C.wpe _ _ K79_34.eq_1
def B_spec_l2DrawEdge : C := .seq (.pl <| .st (.ext 7 0) <|
    .st (.act none (.pnew 2 (.c (.agg #[.int .i64 0, .int .i64 0, .int .i64 0, .int .i64 0, .slice none 0 0, .int .i64 0, .int .i64 0, .int .i64 0, .slice none 0 0, .int .i64 0])) [])) .done) K79_34
@[simp] def WB_spec_l2DrawEdge := @C.wpe _ _ B_spec_l2DrawEdge.eq_1
def R_spec_l2DrawEdge : FIR := ⟨B_spec_l2DrawEdge, 7, [(2, some (some 10))]⟩
theorem IR_spec_l2DrawEdge : cfun Try.prog H_spec_l2DrawEdge Try.f79 = some R_spec_l2DrawEdge := by kernel_rfl
theorem EN_spec_l2DrawEdge {args : List Value} {h : Heap} {k : Value → Heap → Prop} (hargs : args.length = 2) (hw : B_spec_l2DrawEdge.wp Try.prog (retQ [(2, some (some 10))] k) (env0 args 7) h) : CallE Try.prog fn_spec_l2DrawEdge args h k := enter Try.func79 rfl IR_spec_l2DrawEdge hargs hw

def H_spec_l2Guard : Hint := ⟨[(0, false), (2, true), (3, true), (4, true), (5, true)], []⟩
def K115_1 : C := .seq (.pl <| .st (.ext 5 1) <|
    .st (.act none (.pget (some 5) none 4 0 (some 3))) <|
    .st (.act none (.pset none 1 0 3 (.v 5))) .done) (.ret)
@[simp] def W115_1 := @C.wpe _ _ K115_1.eq_1
def K115_2 : Pl := .st (.act none (.px (some 7) (.build [.int .i64 0, .int .i64 0, .slice none 0 0] [(0, 1, .c (.int .i64 3)), (2, 1, .v 6)]))) <|
    .st (.act none (.pset none 1 0 3 (.v 7))) .done
@[simp] def W115_2 := @Pl.wpe _ _ K115_2.eq_1
def K115_3 : C := .seq (.pl <| .st (.ext 5 3) <|
    .st (.act none (.pget (some 5) none 4 0 (some 3))) <|
    .st (.act none (.ex (some 6) (.bls 3 1 [.int .i64 0, .int .i64 0, .slice none 0 0] [(0, 3, .v 5)]))) K115_2) (.ret)
@[simp] def W115_3 := @C.wpe _ _ K115_3.eq_1
def K115_4 : C := .cond 5 (.v 7) K115_3 (.skip)
@[simp] def W115_4 := @C.wpe _ _ K115_4.eq_1
def K115_5 : Pl := .st (.act none (.px (some 7) (.bin .eql (.v 6) (.c (.int .i64 0))))) .done
@[simp] def W115_5 := @Pl.wpe _ _ K115_5.eq_1
def K115_6 : C := .seq (.seq (.pl <| .st (.ext 5 3) <|
    .st (.act none (.px (some 5) (.mv (.v 0)))) <|
    .st (.act none (.ex (some 6) (.call fn_spec_l16Rd_pick [.v 5, .c (.int .i64 5)]))) K115_5) K115_4) K115_1
@[simp] def W115_6 := @C.wpe _ _ K115_6.eq_1
def K115_7 : Pl := .st (.act none (.px (some 11) (.build [.int .i64 0, .int .i64 0, .slice none 0 0] [(0, 1, .v 7), (2, 1, .v 10)]))) <|
    .st (.act none (.pset none 4 0 3 (.v 11))) .done
@[simp] def W115_7 := @Pl.wpe _ _ K115_7.eq_1
def K115_8 : Pl := .st (.act none (.ex (some 10) (.bls 3 2 [.int .i64 0, .int .i64 0, .slice none 0 0] [(0, 3, .v 8), (3, 3, .v 9)]))) K115_7
@[simp] def W115_8 := @Pl.wpe _ _ K115_8.eq_1
def K115_9 : Pl := .st (.act none (.ex (some 7) (.call fn_spec_l16Rd_num [.v 5, .v 6]))) K115_8
@[simp] def W115_9 := @Pl.wpe _ _ K115_9.eq_1
def K115_10 : Pl := .st (.act none (.px (some 11) (.build [.int .i64 0, .int .i64 0, .slice none 0 0] [(0, 1, .v 7), (2, 1, .v 10)]))) <|
    .st (.act none (.pset none 4 0 3 (.v 11))) .done
@[simp] def W115_10 := @Pl.wpe _ _ K115_10.eq_1
def K115_11 : Pl := .st (.act none (.ex (some 7) (.call fn_spec_l16Rd_num [.v 5, .v 6]))) K115_10
@[simp] def W115_11 := @Pl.wpe _ _ K115_11.eq_1
def K115_12 : Pl := .st (.act none (.ex (some 10) (.bls 3 2 [.int .i64 0, .int .i64 0, .slice none 0 0] [(0, 3, .v 8), (3, 3, .v 9)]))) K115_11
@[simp] def W115_12 := @Pl.wpe _ _ K115_12.eq_1
def K115_13 : Pl := .both K115_9 K115_12
@[simp] def W115_13 := @Pl.wpe _ _ K115_13.eq_1
def K115_14 : Pl := .st (.act none (.ex (some 6) (.bls 1 3 [.int .i64 0] [(0, 1, .c (.int .i64 6)), (1, 1, .c (.int .i64 7)), (2, 1, .c (.int .i64 6))]))) K115_13
@[simp] def W115_14 := @Pl.wpe _ _ K115_14.eq_1
def K115_15 : Pl := .st (.act none (.px (some 11) (.build [.int .i64 0, .int .i64 0, .slice none 0 0] [(0, 1, .v 7), (2, 1, .v 10)]))) <|
    .st (.act none (.pset none 4 0 3 (.v 11))) .done
@[simp] def W115_15 := @Pl.wpe _ _ K115_15.eq_1
def K115_16 : Pl := .st (.act none (.ex (some 7) (.call fn_spec_l16Rd_num [.v 5, .v 6]))) K115_15
@[simp] def W115_16 := @Pl.wpe _ _ K115_16.eq_1
def K115_17 : Pl := .st (.act none (.ex (some 6) (.bls 1 3 [.int .i64 0] [(0, 1, .c (.int .i64 6)), (1, 1, .c (.int .i64 7)), (2, 1, .c (.int .i64 6))]))) K115_16
@[simp] def W115_17 := @Pl.wpe _ _ K115_17.eq_1
def K115_18 : Pl := .st (.act none (.ex (some 10) (.bls 3 2 [.int .i64 0, .int .i64 0, .slice none 0 0] [(0, 3, .v 8), (3, 3, .v 9)]))) K115_17
@[simp] def W115_18 := @Pl.wpe _ _ K115_18.eq_1
def K115_19 : C := .seq (.pl <| .st (.ext 5 7) <|
    .st (.act none (.px (some 5) (.mv (.v 0)))) <|
    .st (.act none (.pget (some 8) none 2 0 (some 3))) <|
    .st (.act none (.pget (some 9) none 3 0 (some 3))) <|
    .st (.act none (.pnew 4 (.c (.agg #[.int .i64 0, .int .i64 0, .slice none 0 0])) [])) <|
    .both K115_14 K115_18) K115_6
@[simp] def W115_19 := @C.wpe _ _ K115_19.eq_1
def K115_20 : Pl := .st (.act none (.px (some 7) (.build [.int .i64 0, .int .i64 0, .slice none 0 0] [(0, 1, .c (.int .i64 1)), (1, 1, .v 6)]))) <|
    .st (.act none (.pnew 3 (.c (.agg #[.int .i64 0, .int .i64 0, .slice none 0 0])) [])) <|
    .st (.act none (.pset none 3 0 3 (.v 7))) .done
@[simp] def W115_20 := @Pl.wpe _ _ K115_20.eq_1
def K115_21 : C := .seq (.pl <| .st (.ext 5 3) <|
    .st (.act none (.px (some 5) (.mv (.v 0)))) <|
    .st (.act none (.ex (some 6) (.call fn_spec_l16Rd_pick [.v 5, .c (.int .i64 3)]))) K115_20) K115_19
@[simp] def W115_21 := @C.wpe _ _ K115_21.eq_1
def K115_22 : Pl := .st (.act none (.px (some 8) (.build [.int .i64 0, .int .i64 0, .slice none 0 0] [(0, 1, .c (.int .i64 2)), (1, 1, .v 7)]))) <|
    .st (.act none (.pnew 2 (.c (.agg #[.int .i64 0, .int .i64 0, .slice none 0 0])) [])) <|
    .st (.act none (.pset none 2 0 3 (.v 8))) .done
@[simp] def W115_22 := @Pl.wpe _ _ K115_22.eq_1
def K115_23 : Pl := .st (.act none (.ex (some 7) (.call fn_spec_l16Rd_num [.v 5, .v 6]))) K115_22
@[simp] def W115_23 := @Pl.wpe _ _ K115_23.eq_1
def K115_24 : C := .seq (.pl <| .st (.ext 5 4) <|
    .st (.act none (.px (some 5) (.mv (.v 0)))) <|
    .st (.act none (.ex (some 6) (.bls 1 4 [.int .i64 0] [(0, 1, .c (.int .i64 0)), (1, 1, .c (.int .i64 1)), (2, 1, .c (.int .i64 0)), (3, 1, .c (.int .i64 2))]))) K115_23) K115_21
@[simp] def W115_24 := @C.wpe _ _ K115_24.eq_1
def K115_25 : C := .seq (.pl <| .st (.ext 5 1) <|
    .st (.act none (.px (some 5) (.build [.int .i64 0, .int .i64 0, .slice none 0 0] [(0, 1, .c (.int .i64 1)), (1, 1, .c (.int .i64 1))]))) <|
    .st (.act none (.pset none 1 0 3 (.v 5))) .done) (.ret)
@[simp] def W115_25 := @C.wpe _ _ K115_25.eq_1
def K115_26 : C := .cond 5 (.v 7) K115_25 (.skip)
@[simp] def W115_26 := @C.wpe _ _ K115_26.eq_1
def K115_27 : Pl := .st (.act none (.px (some 7) (.bin .eql (.v 6) (.c (.int .i64 0))))) .done
@[simp] def W115_27 := @Pl.wpe _ _ K115_27.eq_1
def K115_28 : C := .seq (.seq (.pl <| .st (.ext 5 3) <|
    .st (.act none (.px (some 5) (.mv (.v 0)))) <|
    .st (.act none (.ex (some 6) (.call fn_spec_l16Rd_pick [.v 5, .c (.int .i64 3)]))) K115_27) K115_26) K115_24
@[simp] def W115_28 := @C.wpe _ _ K115_28.eq_1
def B_spec_l2Guard : C := .seq (.pl <| .st (.ext 5 0) <|
    .st (.act none (.pnew 1 (.c (.agg #[.int .i64 0, .int .i64 0, .slice none 0 0])) [])) .done) K115_28
@[simp] def WB_spec_l2Guard := @C.wpe _ _ B_spec_l2Guard.eq_1
def R_spec_l2Guard : FIR := ⟨B_spec_l2Guard, 5, [(1, some (some 3))]⟩
theorem IR_spec_l2Guard : cfun Try.prog H_spec_l2Guard Try.f115 = some R_spec_l2Guard := by kernel_rfl
theorem EN_spec_l2Guard {args : List Value} {h : Heap} {k : Value → Heap → Prop} (hargs : args.length = 1) (hw : B_spec_l2Guard.wp Try.prog (retQ [(1, some (some 3))] k) (env0 args 5) h) : CallE Try.prog fn_spec_l2Guard args h k := enter Try.func115 rfl IR_spec_l2Guard hargs hw

def H_spec_l2Mutate : Hint := ⟨[(0, false), (1, false), (3, true), (4, true), (5, true), (6, false), (31, false)], []⟩
def K40_1 : C := .seq (.pl <| .st (.ext 7 1) <|
    .st (.act none (.pget (some 7) none 4 0 (some 2))) <|
    .st (.act none (.pset none 3 0 2 (.v 7))) .done) (.ret)
@[simp] def W40_1 := @C.wpe _ _ K40_1.eq_1
def K40_2 : Pl := .st (.act none (.als 11 none 4)) <|
    .st (.act none (.pset (some 11) 4 0 1 (.v 10))) .done
@[simp] def W40_2 := @Pl.wpe _ _ K40_2.eq_1
def K40_3 : C := .pl <| .st (.ext 7 5) <|
    .st (.act none (.als 7 none 4)) <|
    .st (.act none (.pget (some 8) (some 7) 4 0 none)) <|
    .st (.act none (.psl 9 [.int .i64 0] [(0, 1, .c (.int .i64 0))])) <|
    .st (.act none (.ex (some 10) (.app 8 1 [.int .i64 0] (.o (.v 8)) (.p 1 9)))) K40_2
@[simp] def W40_3 := @C.wpe _ _ K40_3.eq_1
def K40_4 : Pl := .st (.act none (.als 15 none 4)) <|
    .st (.act none (.pset (some 15) 4 1 1 (.v 14))) .done
@[simp] def W40_4 := @Pl.wpe _ _ K40_4.eq_1
def K40_5 : Pl := .st (.act none (.px (some 12) (.build [.int .i64 0, .slice none 0 0] [(0, 1, .v 11)]))) <|
    .st (.act none (.psl 13 [.int .i64 0, .slice none 0 0] [(0, 2, .v 12)])) <|
    .st (.act none (.ex (some 14) (.app 32 2 [.int .i64 0, .slice none 0 0] (.o (.v 8)) (.p 1 13)))) K40_4
@[simp] def W40_5 := @Pl.wpe _ _ K40_5.eq_1
def K40_6 : Pl := .st (.act none (.ex (some 11) (.call fn_spec_l16Rd_num [.v 9, .v 10]))) K40_5
@[simp] def W40_6 := @Pl.wpe _ _ K40_6.eq_1
def K40_7 : C := .pl <| .st (.ext 7 9) <|
    .st (.act none (.als 7 none 4)) <|
    .st (.act none (.pget (some 8) (some 7) 4 1 none)) <|
    .st (.act none (.px (some 9) (.mv (.v 0)))) <|
    .st (.act none (.ex (some 10) (.bls 1 4 [.int .i64 0] [(0, 1, .c (.int .i64 0)), (1, 1, .c (.int .i64 1)), (2, 1, .c (.int .i64 4)), (3, 1, .c (.int .i64 5))]))) K40_6
@[simp] def W40_7 := @C.wpe _ _ K40_7.eq_1
def K40_8 : Pl := .st (.re 12 (.v 11) none none) <|
    .st (.act none (.px (some 17) (.ia 10 (.v 12) (.c (.int .i64 0))))) <|
    .st (.act none (.px (some 18) (.fa 2 (.v 17)))) <|
    .st (.act none (.ex none (.store 3 (.v 18) (.v 16)))) .done
@[simp] def W40_8 := @Pl.wpe _ _ K40_8.eq_1
def K40_9 : Pl := .st (.re 12 (.v 11) none none) <|
    .st (.act none (.ex (some 16) (.call fn_spec_l1Mutate [.v 13, .v 15]))) K40_8
@[simp] def W40_9 := @Pl.wpe _ _ K40_9.eq_1
def K40_10 : C := .pl <| .st (.ext 7 12) <|
    .st (.act none (.als 7 none 4)) <|
    .st (.act none (.pget (some 8) (some 7) 4 1 none)) <|
    .st (.act none (.px (some 9) (.mv (.v 5)))) <|
    .st (.act none (.px (some 10) (.ia 2 (.v 8) (.v 9)))) <|
    .st (.act none (.px (some 11) (.fa 1 (.v 10)))) <|
    .st (.act none (.ld (some 12) (.v 11) none)) <|
    .st (.act none (.px (some 13) (.mv (.v 0)))) <|
    .st (.act none (.px (some 14) (.mv (.v 0)))) <|
    .st (.act none (.ex (some 15) (.call fn_spec_l1Expr [.v 14]))) K40_9
@[simp] def W40_10 := @C.wpe _ _ K40_10.eq_1
def K40_11 : C := .cond 7 (.v 8) K40_10 (.skip)
@[simp] def W40_11 := @C.wpe _ _ K40_11.eq_1
def K40_12 : C := .seq (.pl <| .st (.ext 7 2) <|
    .st (.act none (.px (some 7) (.mv (.v 5)))) <|
    .st (.act none (.px (some 8) (.bin .geq (.v 7) (.c (.int .i64 0))))) .done) K40_11
@[simp] def W40_12 := @C.wpe _ _ K40_12.eq_1
def K40_13 : Pl := .st (.re 12 (.v 11) none none) <|
    .st (.act none (.px (some 16) (.ia 10 (.v 12) (.c (.int .i64 0))))) <|
    .st (.act none (.px (some 17) (.fa 5 (.v 16)))) <|
    .st (.act none (.ex none (.store 1 (.v 17) (.v 15)))) .done
@[simp] def W40_13 := @Pl.wpe _ _ K40_13.eq_1
def K40_14 : Pl := .st (.re 12 (.v 11) none none) <|
    .st (.act none (.ex (some 15) (.call fn_spec_l16Rd_num [.v 13, .v 14]))) K40_13
@[simp] def W40_14 := @Pl.wpe _ _ K40_14.eq_1
def K40_15 : C := .pl <| .st (.ext 7 11) <|
    .st (.act none (.als 7 none 4)) <|
    .st (.act none (.pget (some 8) (some 7) 4 1 none)) <|
    .st (.act none (.px (some 9) (.mv (.v 5)))) <|
    .st (.act none (.px (some 10) (.ia 2 (.v 8) (.v 9)))) <|
    .st (.act none (.px (some 11) (.fa 1 (.v 10)))) <|
    .st (.act none (.ld (some 12) (.v 11) none)) <|
    .st (.act none (.px (some 13) (.mv (.v 0)))) <|
    .st (.act none (.ex (some 14) (.bls 1 4 [.int .i64 0] [(0, 1, .c (.int .i64 (-1))), (1, 1, .c (.int .i64 3)), (2, 1, .c (.int .i64 0)), (3, 1, .c (.int .i64 (-2)))]))) K40_14
@[simp] def W40_15 := @C.wpe _ _ K40_15.eq_1
def K40_16 : C := .cond 7 (.v 8) K40_15 (.skip)
@[simp] def W40_16 := @C.wpe _ _ K40_16.eq_1
def K40_17 : C := .seq (.pl <| .st (.ext 7 2) <|
    .st (.act none (.px (some 7) (.mv (.v 5)))) <|
    .st (.act none (.px (some 8) (.bin .geq (.v 7) (.c (.int .i64 0))))) .done) K40_16
@[simp] def W40_17 := @C.wpe _ _ K40_17.eq_1
def K40_18 : Pl := .st (.re 12 (.v 11) none none) <|
    .st (.act none (.px (some 16) (.ia 10 (.v 12) (.c (.int .i64 0))))) <|
    .st (.act none (.px (some 17) (.fa 9 (.v 16)))) <|
    .st (.act none (.ex none (.store 1 (.v 17) (.v 15)))) .done
@[simp] def W40_18 := @Pl.wpe _ _ K40_18.eq_1
def K40_19 : Pl := .st (.re 12 (.v 11) none none) <|
    .st (.act none (.ex (some 15) (.call fn_spec_l16Rd_num [.v 13, .v 14]))) K40_18
@[simp] def W40_19 := @Pl.wpe _ _ K40_19.eq_1
def K40_20 : C := .pl <| .st (.ext 7 11) <|
    .st (.act none (.als 7 none 4)) <|
    .st (.act none (.pget (some 8) (some 7) 4 1 none)) <|
    .st (.act none (.px (some 9) (.mv (.v 5)))) <|
    .st (.act none (.px (some 10) (.ia 2 (.v 8) (.v 9)))) <|
    .st (.act none (.px (some 11) (.fa 1 (.v 10)))) <|
    .st (.act none (.ld (some 12) (.v 11) none)) <|
    .st (.act none (.px (some 13) (.mv (.v 0)))) <|
    .st (.act none (.ex (some 14) (.bls 1 4 [.int .i64 0] [(0, 1, .c (.int .i64 3)), (1, 1, .c (.int .i64 (-3))), (2, 1, .c (.int .i64 2)), (3, 1, .c (.int .i64 (-9223372036854775808)))]))) K40_19
@[simp] def W40_20 := @C.wpe _ _ K40_20.eq_1
def K40_21 : C := .cond 7 (.v 8) K40_20 (.skip)
@[simp] def W40_21 := @C.wpe _ _ K40_21.eq_1
def K40_22 : C := .seq (.pl <| .st (.ext 7 2) <|
    .st (.act none (.px (some 7) (.mv (.v 5)))) <|
    .st (.act none (.px (some 8) (.bin .geq (.v 7) (.c (.int .i64 0))))) .done) K40_21
@[simp] def W40_22 := @C.wpe _ _ K40_22.eq_1
def K40_23 : Pl := .st (.re 12 (.v 11) none none) <|
    .st (.act none (.px (some 16) (.ia 10 (.v 12) (.c (.int .i64 0))))) <|
    .st (.act none (.px (some 17) (.fa 1 (.v 16)))) <|
    .st (.act none (.ex none (.store 1 (.v 17) (.v 15)))) .done
@[simp] def W40_23 := @Pl.wpe _ _ K40_23.eq_1
def K40_24 : Pl := .st (.re 12 (.v 11) none none) <|
    .st (.act none (.ex (some 15) (.call fn_spec_l16Rd_num [.v 13, .v 14]))) K40_23
@[simp] def W40_24 := @Pl.wpe _ _ K40_24.eq_1
def K40_25 : C := .pl <| .st (.ext 7 11) <|
    .st (.act none (.als 7 none 4)) <|
    .st (.act none (.pget (some 8) (some 7) 4 1 none)) <|
    .st (.act none (.px (some 9) (.mv (.v 5)))) <|
    .st (.act none (.px (some 10) (.ia 2 (.v 8) (.v 9)))) <|
    .st (.act none (.px (some 11) (.fa 1 (.v 10)))) <|
    .st (.act none (.ld (some 12) (.v 11) none)) <|
    .st (.act none (.px (some 13) (.mv (.v 0)))) <|
    .st (.act none (.ex (some 14) (.bls 1 4 [.int .i64 0] [(0, 1, .c (.int .i64 (-1))), (1, 1, .c (.int .i64 4)), (2, 1, .c (.int .i64 0)), (3, 1, .c (.int .i64 9223372036854775807))]))) K40_24
@[simp] def W40_25 := @C.wpe _ _ K40_25.eq_1
def K40_26 : C := .cond 7 (.v 8) K40_25 (.skip)
@[simp] def W40_26 := @C.wpe _ _ K40_26.eq_1
def K40_27 : C := .seq (.pl <| .st (.ext 7 2) <|
    .st (.act none (.px (some 7) (.mv (.v 5)))) <|
    .st (.act none (.px (some 8) (.bin .geq (.v 7) (.c (.int .i64 0))))) .done) K40_26
@[simp] def W40_27 := @C.wpe _ _ K40_27.eq_1
def K40_28 : C := .seq (.pl <| .st (.ext 7 1) <|
    .st (.act none (.px (some 7) (.build [.slice none 0 0, .slice none 0 0] []))) <|
    .st (.act none (.pset none 3 0 2 (.v 7))) .done) (.ret)
@[simp] def W40_28 := @C.wpe _ _ K40_28.eq_1
def K40_29 : C := .cond 7 (.v 8) K40_28 (.skip)
@[simp] def W40_29 := @C.wpe _ _ K40_29.eq_1
def K40_30 : C := .seq (.pl <| .st (.ext 7 2) <|
    .st (.act none (.px (some 7) (.bin .eql (.v 6) (.c (.int .i64 6))))) <|
    .st (.act none (.px (some 8) (.mv (.v 7)))) .done) K40_29
@[simp] def W40_30 := @C.wpe _ _ K40_30.eq_1
def K40_31 : C := .cond 7 (.v 8) K40_27 K40_30
@[simp] def W40_31 := @C.wpe _ _ K40_31.eq_1
def K40_32 : C := .seq (.pl <| .st (.ext 7 2) <|
    .st (.act none (.px (some 7) (.bin .eql (.v 6) (.c (.int .i64 5))))) <|
    .st (.act none (.px (some 8) (.mv (.v 7)))) .done) K40_31
@[simp] def W40_32 := @C.wpe _ _ K40_32.eq_1
def K40_33 : C := .cond 7 (.v 8) K40_22 K40_32
@[simp] def W40_33 := @C.wpe _ _ K40_33.eq_1
def K40_34 : C := .seq (.pl <| .st (.ext 7 2) <|
    .st (.act none (.px (some 7) (.bin .eql (.v 6) (.c (.int .i64 4))))) <|
    .st (.act none (.px (some 8) (.mv (.v 7)))) .done) K40_33
@[simp] def W40_34 := @C.wpe _ _ K40_34.eq_1
def K40_35 : C := .cond 7 (.v 8) K40_17 K40_34
@[simp] def W40_35 := @C.wpe _ _ K40_35.eq_1
def K40_36 : C := .seq (.pl <| .st (.ext 7 2) <|
    .st (.act none (.px (some 7) (.bin .eql (.v 6) (.c (.int .i64 3))))) <|
    .st (.act none (.px (some 8) (.mv (.v 7)))) .done) K40_35
@[simp] def W40_36 := @C.wpe _ _ K40_36.eq_1
def K40_37 : C := .cond 7 (.v 8) K40_12 K40_36
@[simp] def W40_37 := @C.wpe _ _ K40_37.eq_1
def K40_38 : C := .seq (.pl <| .st (.ext 7 2) <|
    .st (.act none (.px (some 7) (.bin .eql (.v 6) (.c (.int .i64 2))))) <|
    .st (.act none (.px (some 8) (.mv (.v 7)))) .done) K40_37
@[simp] def W40_38 := @C.wpe _ _ K40_38.eq_1
def K40_39 : C := .cond 7 (.v 8) K40_7 K40_38
@[simp] def W40_39 := @C.wpe _ _ K40_39.eq_1
def K40_40 : C := .seq (.pl <| .st (.ext 7 2) <|
    .st (.act none (.px (some 7) (.bin .eql (.v 6) (.c (.int .i64 1))))) <|
    .st (.act none (.px (some 8) (.mv (.v 7)))) .done) K40_39
@[simp] def W40_40 := @C.wpe _ _ K40_40.eq_1
def K40_41 : C := .cond 7 (.v 8) K40_3 K40_40
@[simp] def W40_41 := @C.wpe _ _ K40_41.eq_1
def K40_42 : C := .block 0 (.seq (.pl <| .st (.ext 7 2) <|
    .st (.act none (.px (some 7) (.bin .eql (.v 6) (.c (.int .i64 0))))) <|
    .st (.act none (.px (some 8) (.mv (.v 7)))) .done) K40_41)
@[simp] def W40_42 := @C.wpe _ _ K40_42.eq_1
def K40_43 : C := .seq (.seq (.pl <| .st (.ext 7 1) <|
    .st (.act none (.px (some 7) (.mv (.v 0)))) <|
    .st (.act none (.ex (some 6) (.call fn_spec_l16Rd_pick [.v 7, .c (.int .i64 50)]))) .done) K40_42) K40_1
@[simp] def W40_43 := @C.wpe _ _ K40_43.eq_1
def K40_44 : C := .pl <| .st (.ext 7 0) <|
    .st (.act none (.px (some 5) (.mv (.c (.int .i64 (-1)))))) .done
@[simp] def W40_44 := @C.wpe _ _ K40_44.eq_1
def K40_45 : C := .cond 7 (.v 21) K40_44 (.skip)
@[simp] def W40_45 := @C.wpe _ _ K40_45.eq_1
def K40_46 : C := .seq (.seq (.pl <| .st (.ext 7 15) <|
    .st (.act none (.px (some 7) (.mv (.v 5)))) <|
    .st (.act none (.als 8 none 2)) <|
    .st (.act none (.pget (some 9) (some 8) 2 1 none)) <|
    .st (.act none (.px (some 10) (.lenV (.v 9)))) <|
    .st (.act none (.px (some 11) (.bin .eql (.v 7) (.v 10)))) <|
    .st (.act none (.px (some 12) (.mv (.v 11)))) <|
    .st (.act (some (.v 12, false)) (.als 13 none 4)) <|
    .st (.act (some (.v 12, false)) (.pget (some 14) (some 13) 4 1 none)) <|
    .st (.act (some (.v 12, false)) (.px (some 15) (.mv (.v 5)))) <|
    .st (.act (some (.v 12, false)) (.px (some 16) (.ia 2 (.v 14) (.v 15)))) <|
    .st (.act (some (.v 12, false)) (.px (some 17) (.fa 1 (.v 16)))) <|
    .st (.act (some (.v 12, false)) (.ld (some 18) (.v 17) none)) <|
    .st (.act (some (.v 12, false)) (.px (some 19) (.lenV (.v 18)))) <|
    .st (.act (some (.v 12, false)) (.px (some 20) (.bin .eql (.v 19) (.c (.int .i64 0))))) <|
    .st (.act none (.px (some 21) (.pick (.v 12) (.c (.bool true)) (.v 20)))) .done) K40_45) K40_43
@[simp] def W40_46 := @C.wpe _ _ K40_46.eq_1
def K40_47 : Pl := .st (.act none (.px (some 5) (.mv (.v 12)))) .done
@[simp] def W40_47 := @Pl.wpe _ _ K40_47.eq_1
def K40_48 : C := .seq (.pl <| .st (.ext 7 6) <|
    .st (.act none (.px (some 7) (.mv (.v 0)))) <|
    .st (.act none (.als 8 none 2)) <|
    .st (.act none (.pget (some 9) (some 8) 2 1 none)) <|
    .st (.act none (.px (some 10) (.lenV (.v 9)))) <|
    .st (.act none (.px (some 11) (.bin .add (.v 10) (.c (.int .i64 1))))) <|
    .st (.act none (.ex (some 12) (.call fn_spec_l16Rd_pick [.v 7, .v 11]))) K40_47) K40_46
@[simp] def W40_48 := @C.wpe _ _ K40_48.eq_1
def K40_49 : Pl := .st (.act none (.pnew 4 (.c (.agg #[.slice none 0 0, .slice none 0 0])) [])) <|
    .st (.act none (.pset none 4 0 2 (.v 8))) .done
@[simp] def W40_49 := @Pl.wpe _ _ K40_49.eq_1
def K40_50 : C := .seq (.pl <| .st (.ext 7 2) <|
    .st (.act none (.pget (some 7) none 2 0 (some 2))) <|
    .st (.act none (.ex (some 8) (.call fn_spec_l2Copy [.v 7]))) K40_49) K40_48
@[simp] def W40_50 := @C.wpe _ _ K40_50.eq_1
def B_spec_l2Mutate : C := .seq (.pl <| .st (.ext 7 0) <|
    .st (.act none (.pnew 2 (.v 1) [])) <|
    .st (.act none (.pnew 3 (.c (.agg #[.slice none 0 0, .slice none 0 0])) [])) .done) K40_50
@[simp] def WB_spec_l2Mutate := @C.wpe _ _ B_spec_l2Mutate.eq_1
def R_spec_l2Mutate : FIR := ⟨B_spec_l2Mutate, 7, [(3, some (some 2))]⟩
theorem IR_spec_l2Mutate : cfun Try.prog H_spec_l2Mutate Try.f40 = some R_spec_l2Mutate := by kernel_rfl
theorem EN_spec_l2Mutate {args : List Value} {h : Heap} {k : Value → Heap → Prop} (hargs : args.length = 2) (hw : B_spec_l2Mutate.wp Try.prog (retQ [(3, some (some 2))] k) (env0 args 7) h) : CallE Try.prog fn_spec_l2Mutate args h k := enter Try.func40 rfl IR_spec_l2Mutate hargs hw

def H_spec_l2None : Hint := ⟨[(0, false), (1, true), (2, false)], []⟩
def K140_1 : C := .seq (.pl <| .st (.ext 3 14) <|
    .st (.act none (.als 3 none 1)) <|
    .st (.act none (.pget (some 4) (some 3) 1 0 none)) <|
    .st (.act none (.px (some 5) (.bin .eql (.v 4) (.c (.int .i64 0))))) <|
    .st (.act none (.px (some 6) (.mv (.v 5)))) <|
    .st (.act (some (.v 6, true)) (.als 7 none 1)) <|
    .st (.act (some (.v 6, true)) (.pget (some 8) (some 7) 1 1 none)) <|
    .st (.act (some (.v 6, true)) (.px (some 9) (.bin .eql (.v 8) (.c (.int .i64 0))))) <|
    .st (.act none (.px (some 10) (.pick (.v 6) (.v 9) (.c (.bool false))))) <|
    .st (.act none (.px (some 11) (.mv (.v 10)))) <|
    .st (.act (some (.v 11, true)) (.als 12 none 1)) <|
    .st (.act (some (.v 11, true)) (.pget (some 13) (some 12) 1 2 none)) <|
    .st (.act (some (.v 11, true)) (.px (some 14) (.lenV (.v 13)))) <|
    .st (.act (some (.v 11, true)) (.px (some 15) (.bin .eql (.v 14) (.c (.int .i64 0))))) <|
    .st (.act none (.px (some 16) (.pick (.v 11) (.v 15) (.c (.bool false))))) <|
    .st (.act none (.px (some 2) (.mv (.v 16)))) .done) (.ret)
@[simp] def W140_1 := @C.wpe _ _ K140_1.eq_1
def B_spec_l2None : C := .seq (.pl <| .st (.ext 3 0) <|
    .st (.act none (.pnew 1 (.v 0) [])) <|
    .st (.act none (.px (some 2) (.mv (.c (.bool false))))) .done) K140_1
@[simp] def WB_spec_l2None := @C.wpe _ _ B_spec_l2None.eq_1
def R_spec_l2None : FIR := ⟨B_spec_l2None, 3, [(2, none)]⟩
theorem IR_spec_l2None : cfun Try.prog H_spec_l2None Try.f140 = some R_spec_l2None := by kernel_rfl
theorem EN_spec_l2None {args : List Value} {h : Heap} {k : Value → Heap → Prop} (hargs : args.length = 1) (hw : B_spec_l2None.wp Try.prog (retQ [(2, none)] k) (env0 args 3) h) : CallE Try.prog fn_spec_l2None args h k := enter Try.func140 rfl IR_spec_l2None hargs hw

def H_spec_l2Process : Hint := ⟨[(0, false), (1, true), (2, false), (3, false)], [[0, 2]]⟩
def K110_1 : C := .seq (.pl <| .st (.ext 4 14) <|
    .st (.act none (.als 4 none 1)) <|
    .st (.act none (.pget (some 5) (some 4) 1 0 none)) <|
    .st (.act none (.px (some 6) (.bin .geq (.v 5) (.c (.int .i64 1))))) <|
    .st (.act none (.px (some 7) (.mv (.v 6)))) <|
    .st (.act (some (.v 7, true)) (.als 8 none 1)) <|
    .st (.act (some (.v 7, true)) (.pget (some 9) (some 8) 1 0 none)) <|
    .st (.act (some (.v 7, true)) (.px (some 10) (.bin .leq (.v 9) (.c (.int .i64 4))))) <|
    .st (.act none (.px (some 11) (.pick (.v 7) (.v 10) (.c (.bool false))))) <|
    .st (.act none (.px (some 12) (.mv (.v 11)))) <|
    .st (.act (some (.v 12, true)) (.als 13 none 1)) <|
    .st (.act (some (.v 12, true)) (.pget (some 14) (some 13) 1 1 none)) <|
    .st (.act (some (.v 12, true)) (.px (some 15) (.lenV (.v 14)))) <|
    .st (.act (some (.v 12, true)) (.px (some 16) (.bin .leq (.v 15) (.c (.int .i64 6))))) <|
    .st (.act none (.px (some 17) (.pick (.v 12) (.v 16) (.c (.bool false))))) <|
    .st (.act none (.px (some 2) (.mv (.v 17)))) .done) (.ret)
@[simp] def W110_1 := @C.wpe _ _ K110_1.eq_1
def K110_2 : C := .pl <| .st (.ext 4 2) <|
    .st (.act none (.px (some 4) (.mv (.v 3)))) <|
    .st (.act none (.px (some 5) (.bin .add (.v 4) (.c (.int .i64 1))))) <|
    .st (.act none (.px (some 3) (.mv (.v 5)))) .done
@[simp] def W110_2 := @C.wpe _ _ K110_2.eq_1
def K110_3 : C := .seq (.pl <| .st (.ext 4 0) <|
    .st (.act none (.px (some 2) (.mv (.c (.bool false))))) .done) (.ret)
@[simp] def W110_3 := @C.wpe _ _ K110_3.eq_1
def K110_4 : C := .cond 4 (.v 12) K110_3 (.skip)
@[simp] def W110_4 := @C.wpe _ _ K110_4.eq_1
def K110_5 : Pl := .st (.act none (.px (some 12) (.un .not (.v 11)))) .done
@[simp] def W110_5 := @Pl.wpe _ _ K110_5.eq_1
def K110_6 : C := .seq (.block 1 (.seq (.pl <| .st (.ext 4 9) <|
    .st (.act none (.als 4 none 1)) <|
    .st (.act none (.pget (some 5) (some 4) 1 1 none)) <|
    .st (.act none (.px (some 6) (.mv (.v 3)))) <|
    .st (.act none (.px (some 7) (.ia 10 (.v 5) (.v 6)))) <|
    .st (.act none (.ld (some 8) (.v 7) (some 10))) <|
    .st (.act none (.als 9 none 1)) <|
    .st (.act none (.pget (some 10) (some 9) 1 0 none)) <|
    .st (.act none (.ex (some 11) (.call fn_spec_EdgeValid [.v 8, .v 10]))) K110_5) K110_4)) K110_2
@[simp] def W110_6 := @C.wpe _ _ K110_6.eq_1
def K110_7 : C := .cond 4 (.v 8) (.skip) (.exit 0)
@[simp] def W110_7 := @C.wpe _ _ K110_7.eq_1
def K110_8 : C := .seq (.seq (.pl <| .st (.ext 4 5) <|
    .st (.act none (.px (some 4) (.mv (.v 3)))) <|
    .st (.act none (.als 5 none 1)) <|
    .st (.act none (.pget (some 6) (some 5) 1 1 none)) <|
    .st (.act none (.px (some 7) (.lenV (.v 6)))) <|
    .st (.act none (.px (some 8) (.bin .lss (.v 4) (.v 7)))) .done) K110_7) K110_6
@[simp] def W110_8 := @C.wpe _ _ K110_8.eq_1
def K110_9 : C := .block 0 (.loop 4 [0, 2] K110_8)
@[simp] def W110_9 := @C.wpe _ _ K110_9.eq_1
def K110_10 : C := .seq (.seq (.pl <| .st (.ext 4 0) <|
    .st (.act none (.px (some 3) (.mv (.c (.int .i64 0))))) .done) K110_9) K110_1
@[simp] def W110_10 := @C.wpe _ _ K110_10.eq_1
def B_spec_l2Process : C := .seq (.pl <| .st (.ext 4 0) <|
    .st (.act none (.pnew 1 (.v 0) [])) <|
    .st (.act none (.px (some 2) (.mv (.c (.bool false))))) .done) K110_10
@[simp] def WB_spec_l2Process := @C.wpe _ _ B_spec_l2Process.eq_1
def R_spec_l2Process : FIR := ⟨B_spec_l2Process, 4, [(2, none)]⟩
theorem IR_spec_l2Process : cfun Try.prog H_spec_l2Process Try.f110 = some R_spec_l2Process := by kernel_rfl
theorem EN_spec_l2Process {args : List Value} {h : Heap} {k : Value → Heap → Prop} (hargs : args.length = 1) (hw : B_spec_l2Process.wp Try.prog (retQ [(2, none)] k) (env0 args 4) h) : CallE Try.prog fn_spec_l2Process args h k := enter Try.func110 rfl IR_spec_l2Process hargs hw

def H_spec_l2System : Hint := ⟨[(0, false), (2, true), (3, true), (4, false), (5, true), (6, false)], [[4, 5], []]⟩
def K41_1 : C := .seq (.pl <| .st (.ext 6 1) <|
    .st (.act none (.pget (some 6) none 2 0 (some 2))) <|
    .st (.act none (.pset none 1 0 2 (.v 6))) .done) (.ret)
@[simp] def W41_1 := @C.wpe _ _ K41_1.eq_1
def K41_2 : C := .pl <| .st (.ext 6 2) <|
    .st (.act none (.px (some 6) (.mv (.v 3)))) <|
    .st (.act none (.px (some 7) (.bin .sub (.v 6) (.c (.int .i64 1))))) <|
    .st (.act none (.px (some 3) (.mv (.v 7)))) .done
@[simp] def W41_2 := @C.wpe _ _ K41_2.eq_1
def K41_3 : Pl := .st (.act none (.als 11 none 2)) <|
    .st (.act none (.pset (some 11) 2 1 1 (.v 10))) .done
@[simp] def W41_3 := @Pl.wpe _ _ K41_3.eq_1
def K41_4 : C := .pl <| .st (.ext 6 6) <|
    .st (.act none (.als 6 none 2)) <|
    .st (.act none (.pget (some 7) (some 6) 2 1 none)) <|
    .st (.act none (.pget (some 8) none 4 0 (some 2))) <|
    .st (.act none (.psl 9 [.int .i64 0, .slice none 0 0] [(0, 2, .v 8)])) <|
    .st (.act none (.ex (some 10) (.app 32 2 [.int .i64 0, .slice none 0 0] (.o (.v 7)) (.p 1 9)))) K41_3
@[simp] def W41_4 := @C.wpe _ _ K41_4.eq_1
def K41_5 : C := .pl <| .st (.ext 6 2) <|
    .st (.act none (.px (some 6) (.mv (.v 5)))) <|
    .st (.act none (.px (some 7) (.bin .sub (.v 6) (.c (.int .i64 1))))) <|
    .st (.act none (.px (some 5) (.mv (.v 7)))) .done
@[simp] def W41_5 := @C.wpe _ _ K41_5.eq_1
def K41_6 : Pl := .st (.act none (.als 14 none 4)) <|
    .st (.act none (.pset (some 14) 4 1 1 (.v 13))) .done
@[simp] def W41_6 := @Pl.wpe _ _ K41_6.eq_1
def K41_7 : Pl := .st (.act none (.psl 12 [.int .i64 0, .int .i64 0, .int .i64 0, .int .i64 0, .slice none 0 0, .int .i64 0, .int .i64 0, .int .i64 0, .slice none 0 0, .int .i64 0] [(0, 10, .v 11)])) <|
    .st (.act none (.ex (some 13) (.app 112 10 [.int .i64 0, .int .i64 0, .int .i64 0, .int .i64 0, .slice none 0 0, .int .i64 0, .int .i64 0, .int .i64 0, .slice none 0 0, .int .i64 0] (.o (.v 7)) (.p 1 12)))) K41_6
@[simp] def W41_7 := @Pl.wpe _ _ K41_7.eq_1
def K41_8 : C := .seq (.block 3 (.pl <| .st (.ext 6 9) <|
    .st (.act none (.als 6 none 4)) <|
    .st (.act none (.pget (some 7) (some 6) 4 1 none)) <|
    .st (.act none (.px (some 8) (.mv (.v 0)))) <|
    .st (.act none (.als 9 none 4)) <|
    .st (.act none (.pget (some 10) (some 9) 4 0 none)) <|
    .st (.act none (.ex (some 11) (.call fn_spec_l2DrawEdge [.v 8, .v 10]))) K41_7)) K41_5
@[simp] def W41_8 := @C.wpe _ _ K41_8.eq_1
def K41_9 : C := .cond 6 (.v 7) (.skip) (.exit 2)
@[simp] def W41_9 := @C.wpe _ _ K41_9.eq_1
def K41_10 : C := .seq (.seq (.pl <| .st (.ext 6 2) <|
    .st (.act none (.px (some 6) (.mv (.v 5)))) <|
    .st (.act none (.px (some 7) (.bin .gtr (.v 6) (.c (.int .i64 0))))) .done) K41_9) K41_8
@[simp] def W41_10 := @C.wpe _ _ K41_10.eq_1
def K41_11 : C := .block 2 (.loop 6 [] K41_10)
@[simp] def W41_11 := @C.wpe _ _ K41_11.eq_1
def K41_12 : Pl := .st (.act none (.px (some 5) (.mv (.v 8)))) .done
@[simp] def W41_12 := @Pl.wpe _ _ K41_12.eq_1
def K41_13 : Pl := .st (.act none (.ex (some 8) (.call fn_spec_l16Rd_num [.v 6, .v 7]))) K41_12
@[simp] def W41_13 := @Pl.wpe _ _ K41_13.eq_1
def K41_14 : C := .seq (.seq (.pl <| .st (.ext 6 3) <|
    .st (.act none (.px (some 6) (.mv (.v 0)))) <|
    .st (.act none (.ex (some 7) (.bls 1 5 [.int .i64 0] [(0, 1, .c (.int .i64 3)), (1, 1, .c (.int .i64 4)), (2, 1, .c (.int .i64 2)), (3, 1, .c (.int .i64 5)), (4, 1, .c (.int .i64 1))]))) K41_13) K41_11) K41_4
@[simp] def W41_14 := @C.wpe _ _ K41_14.eq_1
def K41_15 : Pl := .st (.act none (.px (some 9) (.build [.int .i64 0, .slice none 0 0] [(0, 1, .v 8)]))) <|
    .st (.act none (.pnew 4 (.c (.agg #[.int .i64 0, .slice none 0 0])) [])) <|
    .st (.act none (.pset none 4 0 2 (.v 9))) .done
@[simp] def W41_15 := @Pl.wpe _ _ K41_15.eq_1
def K41_16 : Pl := .st (.act none (.ex (some 8) (.call fn_spec_l16Rd_num [.v 6, .v 7]))) K41_15
@[simp] def W41_16 := @Pl.wpe _ _ K41_16.eq_1
def K41_17 : C := .seq (.block 1 (.seq (.pl <| .st (.ext 6 4) <|
    .st (.act none (.px (some 6) (.mv (.v 0)))) <|
    .st (.act none (.ex (some 7) (.bls 1 4 [.int .i64 0] [(0, 1, .c (.int .i64 2)), (1, 1, .c (.int .i64 3)), (2, 1, .c (.int .i64 1)), (3, 1, .c (.int .i64 2))]))) K41_16) K41_14)) K41_2
@[simp] def W41_17 := @C.wpe _ _ K41_17.eq_1
def K41_18 : C := .cond 6 (.v 7) (.skip) (.exit 0)
@[simp] def W41_18 := @C.wpe _ _ K41_18.eq_1
def K41_19 : C := .seq (.seq (.pl <| .st (.ext 6 2) <|
    .st (.act none (.px (some 6) (.mv (.v 3)))) <|
    .st (.act none (.px (some 7) (.bin .gtr (.v 6) (.c (.int .i64 0))))) .done) K41_18) K41_17
@[simp] def W41_19 := @C.wpe _ _ K41_19.eq_1
def K41_20 : C := .block 0 (.loop 6 [4, 5] K41_19)
@[simp] def W41_20 := @C.wpe _ _ K41_20.eq_1
def K41_21 : Pl := .st (.act none (.px (some 3) (.mv (.v 8)))) .done
@[simp] def W41_21 := @Pl.wpe _ _ K41_21.eq_1
def K41_22 : Pl := .st (.act none (.ex (some 8) (.call fn_spec_l16Rd_num [.v 6, .v 7]))) K41_21
@[simp] def W41_22 := @Pl.wpe _ _ K41_22.eq_1
def K41_23 : C := .seq (.seq (.pl <| .st (.ext 6 3) <|
    .st (.act none (.px (some 6) (.mv (.v 0)))) <|
    .st (.act none (.ex (some 7) (.bls 1 4 [.int .i64 0] [(0, 1, .c (.int .i64 2)), (1, 1, .c (.int .i64 1)), (2, 1, .c (.int .i64 2)), (3, 1, .c (.int .i64 3))]))) K41_22) K41_20) K41_1
@[simp] def W41_23 := @C.wpe _ _ K41_23.eq_1
def K41_24 : Pl := .st (.act none (.px (some 12) (.build [.slice none 0 0, .slice none 0 0] [(0, 1, .v 11)]))) <|
    .st (.act none (.pnew 2 (.c (.agg #[.slice none 0 0, .slice none 0 0])) [])) <|
    .st (.act none (.pset none 2 0 2 (.v 12))) .done
@[simp] def W41_24 := @Pl.wpe _ _ K41_24.eq_1
def K41_25 : Pl := .st (.act none (.ex (some 11) (.bls 1 3 [.int .i64 0] [(0, 1, .v 7), (1, 1, .v 10), (2, 1, .c (.int .i64 0))]))) K41_24
@[simp] def W41_25 := @Pl.wpe _ _ K41_25.eq_1
def K41_26 : Pl := .st (.act none (.ex (some 10) (.call fn_spec_l16Rd_num [.v 8, .v 9]))) K41_25
@[simp] def W41_26 := @Pl.wpe _ _ K41_26.eq_1
def K41_27 : Pl := .st (.act none (.px (some 8) (.mv (.v 0)))) <|
    .st (.act none (.ex (some 9) (.bls 1 4 [.int .i64 0] [(0, 1, .c (.int .i64 0)), (1, 1, .c (.int .i64 0)), (2, 1, .c (.int .i64 1)), (3, 1, .c (.int .i64 3))]))) K41_26
@[simp] def W41_27 := @Pl.wpe _ _ K41_27.eq_1
def K41_28 : C := .seq (.pl <| .st (.ext 6 7) <|
    .st (.act none (.px (some 6) (.mv (.v 0)))) <|
    .st (.act none (.ex (some 7) (.call fn_spec_l16Rd_pick [.v 6, .c (.int .i64 2)]))) K41_27) K41_23
@[simp] def W41_28 := @C.wpe _ _ K41_28.eq_1
def B_spec_l2System : C := .seq (.pl <| .st (.ext 6 0) <|
    .st (.act none (.pnew 1 (.c (.agg #[.slice none 0 0, .slice none 0 0])) [])) .done) K41_28
@[simp] def WB_spec_l2System := @C.wpe _ _ B_spec_l2System.eq_1
def R_spec_l2System : FIR := ⟨B_spec_l2System, 6, [(1, some (some 2))]⟩
theorem IR_spec_l2System : cfun Try.prog H_spec_l2System Try.f41 = some R_spec_l2System := by kernel_rfl
theorem EN_spec_l2System {args : List Value} {h : Heap} {k : Value → Heap → Prop} (hargs : args.length = 1) (hw : B_spec_l2System.wp Try.prog (retQ [(1, some (some 2))] k) (env0 args 6) h) : CallE Try.prog fn_spec_l2System args h k := enter Try.func41 rfl IR_spec_l2System hargs hw


end Go.Proofs.Ytonjglbachhdcaa

/-
  Bodies of functions in the small language, as a program printed them, and that each is what the translation gives.
-/
namespace Go.Proofs.Ytonjglbachhdcaa
open Go
set_option linter.all false
set_option linter.defProp false
set_option maxRecDepth 1000000

def H_impl_LabelsValid : Hint := ⟨[(0, false), (2, false)], []⟩
def K57_1 : Pl := .st (.act (some (.v 5, true)) (.px (some 8) (.un .not (.v 7)))) <|
    .st (.act none (.px (some 9) (.pick (.v 5) (.v 8) (.c (.bool false))))) <|
    .st (.act none (.px (some 1) (.mv (.v 9)))) .done
@[simp] def W57_1 := @Pl.wpe _ _ K57_1.eq_1
def K57_2 : C := .seq (.pl <| .st (.ext 2 8) <|
    .st (.act none (.px (some 2) (.mv (.v 0)))) <|
    .st (.act none (.px (some 3) (.lenV (.v 2)))) <|
    .st (.act none (.px (some 4) (.bin .eql (.v 3) (.c (.int .i64 3))))) <|
    .st (.act none (.px (some 5) (.mv (.v 4)))) <|
    .st (.act (some (.v 5, true)) (.px (some 6) (.mv (.v 0)))) <|
    .st (.act (some (.v 5, true)) (.ex (some 7) (.call fn_slices_ContainsFunc_S_impl_Expr_impl_Expr [.v 6, .c (.func (.func 100) #[] #[])]))) K57_1) (.ret)
@[simp] def W57_2 := @C.wpe _ _ K57_2.eq_1
def B_impl_LabelsValid : C := .seq (.pl <| .st (.ext 2 0) <|
    .st (.act none (.px (some 1) (.mv (.c (.bool false))))) .done) K57_2
@[simp] def WB_impl_LabelsValid := @C.wpe _ _ B_impl_LabelsValid.eq_1
def R_impl_LabelsValid : FIR := ⟨B_impl_LabelsValid, 2, [(1, none)]⟩
theorem IR_impl_LabelsValid : cfun Try.prog H_impl_LabelsValid Try.f57 = some R_impl_LabelsValid := by kernel_rfl
theorem EN_impl_LabelsValid {args : List Value} {h : Heap} {k : Value → Heap → Prop} (hargs : args.length = 1) (hw : B_impl_LabelsValid.wp Try.prog (retQ [(1, none)] k) (env0 args 2) h) : CallE Try.prog fn_impl_LabelsValid args h k := enter Try.func57 rfl IR_impl_LabelsValid hargs hw

def H_impl_LabelsValid_1 : Hint := ⟨[(0, false), (1, true), (2, false)], []⟩
def K100_1 : Pl := .st (.act none (.px (some 5) (.un .not (.v 4)))) <|
    .st (.act none (.px (some 2) (.mv (.v 5)))) .done
@[simp] def W100_1 := @Pl.wpe _ _ K100_1.eq_1
def K100_2 : C := .seq (.pl <| .st (.ext 3 3) <|
    .st (.act none (.pget (some 3) none 1 0 (some 3))) <|
    .st (.act none (.ex (some 4) (.call fn_impl_ExprValid [.v 3]))) K100_1) (.ret)
@[simp] def W100_2 := @C.wpe _ _ K100_2.eq_1
def B_impl_LabelsValid_1 : C := .seq (.pl <| .st (.ext 3 0) <|
    .st (.act none (.pnew 1 (.v 0) [])) <|
    .st (.act none (.px (some 2) (.mv (.c (.bool false))))) .done) K100_2
@[simp] def WB_impl_LabelsValid_1 := @C.wpe _ _ B_impl_LabelsValid_1.eq_1
def R_impl_LabelsValid_1 : FIR := ⟨B_impl_LabelsValid_1, 3, [(2, none)]⟩
theorem IR_impl_LabelsValid_1 : cfun Try.prog H_impl_LabelsValid_1 Try.f100 = some R_impl_LabelsValid_1 := by kernel_rfl
theorem EN_impl_LabelsValid_1 {args : List Value} {h : Heap} {k : Value → Heap → Prop} (hargs : args.length = 1) (hw : B_impl_LabelsValid_1.wp Try.prog (retQ [(2, none)] k) (env0 args 3) h) : CallE Try.prog fn_impl_LabelsValid_1 args h k := enter Try.func100 rfl IR_impl_LabelsValid_1 hargs hw

def H_impl_ProjectState : Hint := ⟨[(0, false), (1, false), (2, false), (3, true), (5, true), (6, true), (7, false), (8, false), (9, false), (10, true), (11, false), (12, false), (30, false), (31, false), (32, false)], [[0, 1, 2, 4, 6, 7, 8, 10, 11]]⟩
def K21_1 : C := .seq (.pl <| .st (.ext 15 1) <|
    .st (.act none (.pget (some 15) none 9 0 (some 2))) <|
    .st (.act none (.pset none 5 0 2 (.v 15))) <|
    .st (.act none (.px (some 6) (.mv (.c (.bool true))))) .done) (.ret)
@[simp] def W21_1 := @C.wpe _ _ K21_1.eq_1
def K21_2 : C := .pl <| .st (.ext 15 1) <|
    .st (.act none (.px (some 15) (.bin .add (.v 14) (.c (.int .i64 1))))) <|
    .st (.act none (.px (some 14) (.mv (.v 15)))) .done
@[simp] def W21_2 := @C.wpe _ _ K21_2.eq_1
def K21_3 : C := .pl <| .st (.ext 15 9) <|
    .st (.act none (.als 15 none 9)) <|
    .st (.act none (.pget (some 16) (some 15) 9 1 none)) <|
    .st (.act none (.px (some 17) (.mv (.v 10)))) <|
    .st (.act none (.als 18 none 3)) <|
    .st (.act none (.pget (some 19) (some 18) 3 0 none)) <|
    .st (.act none (.px (some 20) (.mv (.v 10)))) <|
    .st (.act none (.px (some 21) (.ia 1 (.v 19) (.v 20)))) <|
    .st (.act none (.ld (some 22) (.v 21) none)) <|
    .st (.act none (.px (some 23) (.ia 1 (.v 16) (.v 17)))) <|
    .st (.act none (.ex none (.store 1 (.v 23) (.v 22)))) .done
@[simp] def W21_3 := @C.wpe _ _ K21_3.eq_1
def K21_4 : C := .cond 15 (.v 16) K21_3 (.skip)
@[simp] def W21_4 := @C.wpe _ _ K21_4.eq_1
def K21_5 : C := .seq (.pl <| .st (.ext 15 2) <|
    .st (.act none (.px (some 15) (.mv (.v 11)))) <|
    .st (.act none (.px (some 16) (.un .not (.v 15)))) .done) K21_4
@[simp] def W21_5 := @C.wpe _ _ K21_5.eq_1
def K21_6 : C := .seq (.block 1 (.seq (.pl <| .st (.ext 15 3) <|
    .st (.act none (.px (some 15) (.mv (.v 14)))) <|
    .st (.act none (.px (some 16) (.ia 1 (.v 12) (.v 14)))) <|
    .st (.act none (.ld (some 17) (.v 16) none)) <|
    .st (.act none (.px (some 10) (.mv (.v 15)))) <|
    .st (.act none (.px (some 11) (.mv (.v 17)))) .done) K21_5)) K21_2
@[simp] def W21_6 := @C.wpe _ _ K21_6.eq_1
def K21_7 : C := .seq (.cond 15 (.v 15) (.skip) (.exit 0)) K21_6
@[simp] def W21_7 := @C.wpe _ _ K21_7.eq_1
def K21_8 : C := .seq (.pl <| .st (.ext 15 1) <|
    .st (.act none (.px (some 15) (.bin .lss (.v 14) (.v 13)))) .done) K21_7
@[simp] def W21_8 := @C.wpe _ _ K21_8.eq_1
def K21_9 : C := .block 0 (.loop 15 [0, 1, 2, 4, 6, 7, 8, 10, 11] K21_8)
@[simp] def W21_9 := @C.wpe _ _ K21_9.eq_1
def K21_10 : C := .seq (.seq (.pl <| .st (.ext 15 0) <|
    .st (.act none (.px (some 12) (.mv (.v 7)))) <|
    .st (.act none (.px (some 13) (.lenV (.v 12)))) <|
    .st (.act none (.px (some 14) (.mv (.c (.int .i64 0))))) .done) K21_9) K21_1
@[simp] def W21_10 := @C.wpe _ _ K21_10.eq_1
def K21_11 : Pl := .st (.act none (.pnew 9 (.c (.agg #[.slice none 0 0, .slice none 0 0])) [])) <|
    .st (.act none (.pset none 9 0 2 (.v 16))) .done
@[simp] def W21_11 := @Pl.wpe _ _ K21_11.eq_1
def K21_12 : C := .seq (.pl <| .st (.ext 15 2) <|
    .st (.act none (.pget (some 15) none 4 0 (some 2))) <|
    .st (.act none (.ex (some 16) (.call fn_impl_State_copyOf [.v 15]))) K21_11) K21_10
@[simp] def W21_12 := @C.wpe _ _ K21_12.eq_1
def K21_13 : C := .seq (.pl <| .st (.ext 15 1) <|
    .st (.act none (.px (some 15) (.build [.slice none 0 0, .slice none 0 0] []))) <|
    .st (.act none (.pset none 5 0 2 (.v 15))) <|
    .st (.act none (.px (some 6) (.mv (.c (.bool false))))) .done) (.ret)
@[simp] def W21_13 := @C.wpe _ _ K21_13.eq_1
def K21_14 : C := .cond 15 (.v 22) K21_13 (.skip)
@[simp] def W21_14 := @C.wpe _ _ K21_14.eq_1
def K21_15 : Pl := .st (.act (some (.v 17, false)) (.px (some 21) (.un .not (.v 20)))) <|
    .st (.act none (.px (some 22) (.pick (.v 17) (.c (.bool true)) (.v 21)))) .done
@[simp] def W21_15 := @Pl.wpe _ _ K21_15.eq_1
def K21_16 : C := .seq (.seq (.pl <| .st (.ext 15 8) <|
    .st (.act none (.px (some 15) (.mv (.v 8)))) <|
    .st (.act none (.px (some 16) (.un .not (.v 15)))) <|
    .st (.act none (.px (some 17) (.mv (.v 16)))) <|
    .st (.act (some (.v 17, false)) (.pget (some 18) none 3 0 (some 2))) <|
    .st (.act (some (.v 17, false)) (.pget (some 19) none 4 0 (some 2))) <|
    .st (.act (some (.v 17, false)) (.ex (some 20) (.call fn_impl_System_has [.v 18, .v 19]))) K21_15) K21_14) K21_12
@[simp] def W21_16 := @C.wpe _ _ K21_16.eq_1
def K21_17 : Pl := .st (.act none (.px (some 18) (.mv (.v 17)))) <|
    .st (.act none (.px (some 19) (.extract 0 (.v 18)))) <|
    .st (.act none (.px (some 20) (.extract 1 (.v 18)))) <|
    .st (.act none (.px (some 7) (.mv (.v 19)))) <|
    .st (.act none (.px (some 8) (.mv (.v 20)))) .done
@[simp] def W21_17 := @Pl.wpe _ _ K21_17.eq_1
def K21_18 : C := .seq (.pl <| .st (.ext 15 6) <|
    .st (.act none (.pget (some 15) none 3 0 (some 2))) <|
    .st (.act none (.px (some 16) (.mv (.v 1)))) <|
    .st (.act none (.ex (some 17) (.call fn_impl_RelevantVars [.v 15, .v 16]))) K21_17) K21_16
@[simp] def W21_18 := @C.wpe _ _ K21_18.eq_1
def B_impl_ProjectState : C := .seq (.pl <| .st (.ext 15 0) <|
    .st (.act none (.pnew 3 (.v 0) [])) <|
    .st (.act none (.pnew 4 (.v 2) [])) <|
    .st (.act none (.pnew 5 (.c (.agg #[.slice none 0 0, .slice none 0 0])) [])) <|
    .st (.act none (.px (some 6) (.mv (.c (.bool false))))) .done) K21_18
@[simp] def WB_impl_ProjectState := @C.wpe _ _ B_impl_ProjectState.eq_1
def R_impl_ProjectState : FIR := ⟨B_impl_ProjectState, 15, [(5, some (some 2)), (6, none)]⟩
theorem IR_impl_ProjectState : cfun Try.prog H_impl_ProjectState Try.f21 = some R_impl_ProjectState := by kernel_rfl
theorem EN_impl_ProjectState {args : List Value} {h : Heap} {k : Value → Heap → Prop} (hargs : args.length = 3) (hw : B_impl_ProjectState.wp Try.prog (retQ [(5, some (some 2)), (6, none)] k) (env0 args 15) h) : CallE Try.prog fn_impl_ProjectState args h k := enter Try.func21 rfl IR_impl_ProjectState hargs hw

def H_impl_RelevantVars : Hint := ⟨[(0, false), (1, false), (2, true), (4, false), (5, false)], []⟩
def K53_1 : Pl := .st (.act none (.px (some 3) (.mv (.v 7)))) <|
    .st (.act none (.px (some 4) (.mv (.c (.bool true))))) .done
@[simp] def W53_1 := @Pl.wpe _ _ K53_1.eq_1
def K53_2 : C := .seq (.pl <| .st (.ext 5 3) <|
    .st (.act none (.pget (some 5) none 2 0 (some 2))) <|
    .st (.act none (.px (some 6) (.mv (.v 1)))) <|
    .st (.act none (.ex (some 7) (.call fn_impl_System_relevant [.v 5, .v 6]))) K53_1) (.ret)
@[simp] def W53_2 := @C.wpe _ _ K53_2.eq_1
def K53_3 : C := .seq (.pl <| .st (.ext 5 0) <|
    .st (.act none (.px (some 3) (.mv (.c (.slice none 0 0))))) <|
    .st (.act none (.px (some 4) (.mv (.c (.bool false))))) .done) (.ret)
@[simp] def W53_3 := @C.wpe _ _ K53_3.eq_1
def K53_4 : C := .cond 5 (.v 12) K53_3 (.skip)
@[simp] def W53_4 := @C.wpe _ _ K53_4.eq_1
def K53_5 : Pl := .st (.act (some (.v 8, false)) (.px (some 11) (.un .not (.v 10)))) <|
    .st (.act none (.px (some 12) (.pick (.v 8) (.c (.bool true)) (.v 11)))) .done
@[simp] def W53_5 := @Pl.wpe _ _ K53_5.eq_1
def K53_6 : Pl := .st (.act none (.px (some 7) (.un .not (.v 6)))) <|
    .st (.act none (.px (some 8) (.mv (.v 7)))) <|
    .st (.act (some (.v 8, false)) (.px (some 9) (.mv (.v 1)))) <|
    .st (.act (some (.v 8, false)) (.ex (some 10) (.call fn_impl_LabelsValid [.v 9]))) K53_5
@[simp] def W53_6 := @Pl.wpe _ _ K53_6.eq_1
def K53_7 : C := .seq (.seq (.pl <| .st (.ext 5 8) <|
    .st (.act none (.pget (some 5) none 2 0 (some 2))) <|
    .st (.act none (.ex (some 6) (.call fn_impl_SystemValid [.v 5]))) K53_6) K53_4) K53_2
@[simp] def W53_7 := @C.wpe _ _ K53_7.eq_1
def B_impl_RelevantVars : C := .seq (.pl <| .st (.ext 5 0) <|
    .st (.act none (.pnew 2 (.v 0) [])) <|
    .st (.act none (.px (some 3) (.mv (.c (.slice none 0 0))))) <|
    .st (.act none (.px (some 4) (.mv (.c (.bool false))))) .done) K53_7
@[simp] def WB_impl_RelevantVars := @C.wpe _ _ B_impl_RelevantVars.eq_1
def R_impl_RelevantVars : FIR := ⟨B_impl_RelevantVars, 5, [(3, none), (4, none)]⟩
theorem IR_impl_RelevantVars : cfun Try.prog H_impl_RelevantVars Try.f53 = some R_impl_RelevantVars := by kernel_rfl
theorem EN_impl_RelevantVars {args : List Value} {h : Heap} {k : Value → Heap → Prop} (hargs : args.length = 2) (hw : B_impl_RelevantVars.wp Try.prog (retQ [(3, none), (4, none)] k) (env0 args 5) h) : CallE Try.prog fn_impl_RelevantVars args h k := enter Try.func53 rfl IR_impl_RelevantVars hargs hw

def H_impl_System_relevant : Hint := ⟨[(0, false), (1, false), (2, true), (4, false), (5, false), (7, true), (9, true), (11, true), (13, true), (15, true), (17, false), (18, false), (19, false), (28, false), (29, false), (30, false), (35, false), (36, false), (37, false), (47, false), (50, false), (51, false), (52, false), (57, false), (58, false), (59, false)], [[0, 1, 3, 5, 6, 7, 8, 9, 13, 14, 15, 16, 17, 18, 19, 20, 21, 22, 23, 24, 25], [0, 1, 3, 5, 6, 7, 8, 9, 10, 11, 12, 16, 17, 18, 19, 20, 21, 22, 23, 24, 25], [0, 1, 3, 5, 6, 7, 8, 9, 10, 11, 12, 19, 20, 21, 22, 23, 24, 25], [0, 1, 3, 5, 6, 7, 8, 9, 10, 11, 12, 13, 14, 15, 16, 17, 18, 20, 21, 22, 23, 24, 25], [0, 1, 3, 5, 6, 7, 8, 9, 10, 11, 12, 13, 14, 15, 16, 17, 18, 23, 24, 25], [0, 1, 3, 5, 6, 7, 8, 9, 10, 11, 12, 13, 14, 15, 16, 17, 18]]⟩
def K95_1 : C := .seq (.pl <| .st (.ext 26 1) <|
    .st (.act none (.px (some 26) (.mv (.v 4)))) <|
    .st (.act none (.px (some 3) (.mv (.v 26)))) .done) (.ret)
@[simp] def W95_1 := @C.wpe _ _ K95_1.eq_1
def K95_2 : C := .pl <| .st (.ext 26 1) <|
    .st (.act none (.px (some 26) (.bin .add (.v 19) (.c (.int .i64 1))))) <|
    .st (.act none (.px (some 19) (.mv (.v 26)))) .done
@[simp] def W95_2 := @C.wpe _ _ K95_2.eq_1
def K95_3 : C := .pl <| .st (.ext 26 1) <|
    .st (.act none (.px (some 26) (.bin .add (.v 22) (.c (.int .i64 1))))) <|
    .st (.act none (.px (some 22) (.mv (.v 26)))) .done
@[simp] def W95_3 := @C.wpe _ _ K95_3.eq_1
def K95_4 : C := .pl <| .st (.ext 26 1) <|
    .st (.act none (.px (some 26) (.bin .add (.v 25) (.c (.int .i64 1))))) <|
    .st (.act none (.px (some 25) (.mv (.v 26)))) .done
@[simp] def W95_4 := @C.wpe _ _ K95_4.eq_1
def K95_5 : C := .pl <| .st (.ext 26 4) <|
    .st (.act none (.als 26 none 9)) <|
    .st (.act none (.pget (some 27) (some 26) 9 6 (some 3))) <|
    .st (.act none (.px (some 28) (.mv (.v 4)))) <|
    .st (.act none (.ex (some 29) (.call fn_impl_Expr_vars [.v 27, .v 28]))) .done
@[simp] def W95_5 := @C.wpe _ _ K95_5.eq_1
def K95_6 : C := .cond 26 (.v 35) K95_5 (.skip)
@[simp] def W95_6 := @C.wpe _ _ K95_6.eq_1
def K95_7 : C := .seq (.pl <| .st (.ext 26 10) <|
    .st (.act none (.als 26 none 9)) <|
    .st (.act none (.pget (some 27) (some 26) 9 5 none)) <|
    .st (.act none (.px (some 28) (.bin .geq (.v 27) (.c (.int .i64 0))))) <|
    .st (.act none (.px (some 29) (.mv (.v 28)))) <|
    .st (.act (some (.v 29, true)) (.px (some 30) (.mv (.v 4)))) <|
    .st (.act (some (.v 29, true)) (.als 31 none 9)) <|
    .st (.act (some (.v 29, true)) (.pget (some 32) (some 31) 9 5 none)) <|
    .st (.act (some (.v 29, true)) (.px (some 33) (.ia 1 (.v 30) (.v 32)))) <|
    .st (.act (some (.v 29, true)) (.ld (some 34) (.v 33) none)) <|
    .st (.act none (.px (some 35) (.pick (.v 29) (.v 34) (.c (.bool false))))) .done) K95_6
@[simp] def W95_7 := @C.wpe _ _ K95_7.eq_1
def K95_8 : C := .seq (.block 11 (.seq (.pl <| .st (.ext 26 2) <|
    .st (.act none (.px (some 26) (.ia 10 (.v 23) (.v 25)))) <|
    .st (.act none (.ld (some 27) (.v 26) (some 10))) <|
    .st (.act none (.pnew 9 (.c (.agg #[.int .i64 0, .int .i64 0, .int .i64 0, .int .i64 0, .slice none 0 0, .int .i64 0, .int .i64 0, .int .i64 0, .slice none 0 0, .int .i64 0])) [])) <|
    .st (.act none (.pset none 9 0 10 (.v 27))) .done) K95_7)) K95_4
@[simp] def W95_8 := @C.wpe _ _ K95_8.eq_1
def K95_9 : C := .seq (.cond 26 (.v 26) (.skip) (.exit 10)) K95_8
@[simp] def W95_9 := @C.wpe _ _ K95_9.eq_1
def K95_10 : C := .seq (.pl <| .st (.ext 26 1) <|
    .st (.act none (.px (some 26) (.bin .lss (.v 25) (.v 24)))) .done) K95_9
@[simp] def W95_10 := @C.wpe _ _ K95_10.eq_1
def K95_11 : C := .block 10 (.loop 26 [0, 1, 3, 5, 6, 7, 8, 9, 10, 11, 12, 13, 14, 15, 16, 17, 18] K95_10)
@[simp] def W95_11 := @C.wpe _ _ K95_11.eq_1
def K95_12 : C := .seq (.pl <| .st (.ext 26 1) <|
    .st (.act none (.als 26 none 8)) <|
    .st (.act none (.pget (some 23) (some 26) 8 1 none)) <|
    .st (.act none (.px (some 24) (.lenV (.v 23)))) <|
    .st (.act none (.px (some 25) (.mv (.c (.int .i64 0))))) .done) K95_11
@[simp] def W95_12 := @C.wpe _ _ K95_12.eq_1
def K95_13 : C := .seq (.block 9 (.seq (.pl <| .st (.ext 26 2) <|
    .st (.act none (.px (some 26) (.ia 2 (.v 20) (.v 22)))) <|
    .st (.act none (.ld (some 27) (.v 26) (some 2))) <|
    .st (.act none (.pnew 8 (.c (.agg #[.int .i64 0, .slice none 0 0])) [])) <|
    .st (.act none (.pset none 8 0 2 (.v 27))) .done) K95_12)) K95_3
@[simp] def W95_13 := @C.wpe _ _ K95_13.eq_1
def K95_14 : C := .seq (.cond 26 (.v 26) (.skip) (.exit 8)) K95_13
@[simp] def W95_14 := @C.wpe _ _ K95_14.eq_1
def K95_15 : C := .seq (.pl <| .st (.ext 26 1) <|
    .st (.act none (.px (some 26) (.bin .lss (.v 22) (.v 21)))) .done) K95_14
@[simp] def W95_15 := @C.wpe _ _ K95_15.eq_1
def K95_16 : C := .block 8 (.loop 26 [0, 1, 3, 5, 6, 7, 8, 9, 10, 11, 12, 13, 14, 15, 16, 17, 18, 23, 24, 25] K95_15)
@[simp] def W95_16 := @C.wpe _ _ K95_16.eq_1
def K95_17 : C := .seq (.block 7 (.seq (.pl <| .st (.ext 26 1) <|
    .st (.act none (.als 26 none 2)) <|
    .st (.act none (.pget (some 20) (some 26) 2 1 none)) <|
    .st (.act none (.px (some 21) (.lenV (.v 20)))) <|
    .st (.act none (.px (some 22) (.mv (.c (.int .i64 0))))) .done) K95_16)) K95_2
@[simp] def W95_17 := @C.wpe _ _ K95_17.eq_1
def K95_18 : C := .seq (.cond 26 (.v 26) (.skip) (.exit 6)) K95_17
@[simp] def W95_18 := @C.wpe _ _ K95_18.eq_1
def K95_19 : C := .seq (.pl <| .st (.ext 26 1) <|
    .st (.act none (.px (some 26) (.bin .lss (.v 19) (.c (.int .i64 3))))) .done) K95_18
@[simp] def W95_19 := @C.wpe _ _ K95_19.eq_1
def K95_20 : C := .block 6 (.loop 26 [0, 1, 3, 5, 6, 7, 8, 9, 10, 11, 12, 13, 14, 15, 16, 17, 18, 20, 21, 22, 23, 24, 25] K95_19)
@[simp] def W95_20 := @C.wpe _ _ K95_20.eq_1
def K95_21 : C := .seq (.seq (.pl <| .st (.ext 26 0) <|
    .st (.act none (.px (some 19) (.mv (.c (.int .i64 0))))) .done) K95_20) K95_1
@[simp] def W95_21 := @C.wpe _ _ K95_21.eq_1
def K95_22 : C := .pl <| .st (.ext 26 1) <|
    .st (.act none (.px (some 26) (.bin .add (.v 15) (.c (.int .i64 1))))) <|
    .st (.act none (.px (some 15) (.mv (.v 26)))) .done
@[simp] def W95_22 := @C.wpe _ _ K95_22.eq_1
def K95_23 : C := .pl <| .st (.ext 26 1) <|
    .st (.act none (.px (some 26) (.bin .add (.v 18) (.c (.int .i64 1))))) <|
    .st (.act none (.px (some 18) (.mv (.v 26)))) .done
@[simp] def W95_23 := @C.wpe _ _ K95_23.eq_1
def K95_24 : C := .pl <| .st (.ext 26 4) <|
    .st (.act none (.als 26 none 7)) <|
    .st (.act none (.pget (some 27) (some 26) 7 2 (some 3))) <|
    .st (.act none (.px (some 28) (.mv (.v 4)))) <|
    .st (.act none (.ex (some 29) (.call fn_impl_Expr_vars [.v 27, .v 28]))) .done
@[simp] def W95_24 := @C.wpe _ _ K95_24.eq_1
def K95_25 : C := .seq (.block 5 (.seq (.pl <| .st (.ext 26 2) <|
    .st (.act none (.px (some 26) (.ia 10 (.v 16) (.v 18)))) <|
    .st (.act none (.ld (some 27) (.v 26) (some 10))) <|
    .st (.act none (.pnew 7 (.c (.agg #[.int .i64 0, .int .i64 0, .int .i64 0, .int .i64 0, .slice none 0 0, .int .i64 0, .int .i64 0, .int .i64 0, .slice none 0 0, .int .i64 0])) [])) <|
    .st (.act none (.pset none 7 0 10 (.v 27))) .done) K95_24)) K95_23
@[simp] def W95_25 := @C.wpe _ _ K95_25.eq_1
def K95_26 : C := .seq (.cond 26 (.v 26) (.skip) (.exit 4)) K95_25
@[simp] def W95_26 := @C.wpe _ _ K95_26.eq_1
def K95_27 : C := .seq (.pl <| .st (.ext 26 1) <|
    .st (.act none (.px (some 26) (.bin .lss (.v 18) (.v 17)))) .done) K95_26
@[simp] def W95_27 := @C.wpe _ _ K95_27.eq_1
def K95_28 : C := .block 4 (.loop 26 [0, 1, 3, 5, 6, 7, 8, 9, 10, 11, 12, 19, 20, 21, 22, 23, 24, 25] K95_27)
@[simp] def W95_28 := @C.wpe _ _ K95_28.eq_1
def K95_29 : C := .seq (.pl <| .st (.ext 26 1) <|
    .st (.act none (.als 26 none 6)) <|
    .st (.act none (.pget (some 16) (some 26) 6 1 none)) <|
    .st (.act none (.px (some 17) (.lenV (.v 16)))) <|
    .st (.act none (.px (some 18) (.mv (.c (.int .i64 0))))) .done) K95_28
@[simp] def W95_29 := @C.wpe _ _ K95_29.eq_1
def K95_30 : C := .seq (.block 3 (.seq (.pl <| .st (.ext 26 2) <|
    .st (.act none (.px (some 26) (.ia 2 (.v 13) (.v 15)))) <|
    .st (.act none (.ld (some 27) (.v 26) (some 2))) <|
    .st (.act none (.pnew 6 (.c (.agg #[.int .i64 0, .slice none 0 0])) [])) <|
    .st (.act none (.pset none 6 0 2 (.v 27))) .done) K95_29)) K95_22
@[simp] def W95_30 := @C.wpe _ _ K95_30.eq_1
def K95_31 : C := .seq (.cond 26 (.v 26) (.skip) (.exit 2)) K95_30
@[simp] def W95_31 := @C.wpe _ _ K95_31.eq_1
def K95_32 : C := .seq (.pl <| .st (.ext 26 1) <|
    .st (.act none (.px (some 26) (.bin .lss (.v 15) (.v 14)))) .done) K95_31
@[simp] def W95_32 := @C.wpe _ _ K95_32.eq_1
def K95_33 : C := .block 2 (.loop 26 [0, 1, 3, 5, 6, 7, 8, 9, 10, 11, 12, 16, 17, 18, 19, 20, 21, 22, 23, 24, 25] K95_32)
@[simp] def W95_33 := @C.wpe _ _ K95_33.eq_1
def K95_34 : C := .seq (.seq (.pl <| .st (.ext 26 1) <|
    .st (.act none (.als 26 none 2)) <|
    .st (.act none (.pget (some 13) (some 26) 2 1 none)) <|
    .st (.act none (.px (some 14) (.lenV (.v 13)))) <|
    .st (.act none (.px (some 15) (.mv (.c (.int .i64 0))))) .done) K95_33) K95_21
@[simp] def W95_34 := @C.wpe _ _ K95_34.eq_1
def K95_35 : C := .pl <| .st (.ext 26 1) <|
    .st (.act none (.px (some 26) (.bin .add (.v 12) (.c (.int .i64 1))))) <|
    .st (.act none (.px (some 12) (.mv (.v 26)))) .done
@[simp] def W95_35 := @C.wpe _ _ K95_35.eq_1
def K95_36 : C := .pl <| .st (.ext 26 3) <|
    .st (.act none (.pget (some 26) none 5 0 (some 3))) <|
    .st (.act none (.px (some 27) (.mv (.v 4)))) <|
    .st (.act none (.ex (some 28) (.call fn_impl_Expr_vars [.v 26, .v 27]))) .done
@[simp] def W95_36 := @C.wpe _ _ K95_36.eq_1
def K95_37 : C := .seq (.block 1 (.seq (.pl <| .st (.ext 26 2) <|
    .st (.act none (.px (some 26) (.ia 3 (.v 10) (.v 12)))) <|
    .st (.act none (.ld (some 27) (.v 26) (some 3))) <|
    .st (.act none (.pnew 5 (.c (.agg #[.int .i64 0, .int .i64 0, .slice none 0 0])) [])) <|
    .st (.act none (.pset none 5 0 3 (.v 27))) .done) K95_36)) K95_35
@[simp] def W95_37 := @C.wpe _ _ K95_37.eq_1
def K95_38 : C := .seq (.cond 26 (.v 26) (.skip) (.exit 0)) K95_37
@[simp] def W95_38 := @C.wpe _ _ K95_38.eq_1
def K95_39 : C := .seq (.pl <| .st (.ext 26 1) <|
    .st (.act none (.px (some 26) (.bin .lss (.v 12) (.v 11)))) .done) K95_38
@[simp] def W95_39 := @C.wpe _ _ K95_39.eq_1
def K95_40 : C := .block 0 (.loop 26 [0, 1, 3, 5, 6, 7, 8, 9, 13, 14, 15, 16, 17, 18, 19, 20, 21, 22, 23, 24, 25] K95_39)
@[simp] def W95_40 := @C.wpe _ _ K95_40.eq_1
def K95_41 : C := .seq (.seq (.pl <| .st (.ext 26 0) <|
    .st (.act none (.px (some 10) (.mv (.v 1)))) <|
    .st (.act none (.px (some 11) (.lenV (.v 10)))) <|
    .st (.act none (.px (some 12) (.mv (.c (.int .i64 0))))) .done) K95_40) K95_34
@[simp] def W95_41 := @C.wpe _ _ K95_41.eq_1
def K95_42 : Pl := .st (.act none (.px (some 4) (.mv (.v 26)))) .done
@[simp] def W95_42 := @Pl.wpe _ _ K95_42.eq_1
def K95_43 : C := .seq (.pl <| .st (.ext 26 1) <|
    .st (.act none (.ex (some 26) (.mks 1 1 [.bool false] (.c (.int .i64 3)) (.c (.int .i64 3))))) K95_42) K95_41
@[simp] def W95_43 := @C.wpe _ _ K95_43.eq_1
def B_impl_System_relevant : C := .seq (.pl <| .st (.ext 26 0) <|
    .st (.act none (.pnew 2 (.v 0) [])) <|
    .st (.act none (.px (some 3) (.mv (.c (.slice none 0 0))))) .done) K95_43
@[simp] def WB_impl_System_relevant := @C.wpe _ _ B_impl_System_relevant.eq_1
def R_impl_System_relevant : FIR := ⟨B_impl_System_relevant, 26, [(3, none)]⟩
theorem IR_impl_System_relevant : cfun Try.prog H_impl_System_relevant Try.f95 = some R_impl_System_relevant := by kernel_rfl
theorem EN_impl_System_relevant {args : List Value} {h : Heap} {k : Value → Heap → Prop} (hargs : args.length = 2) (hw : B_impl_System_relevant.wp Try.prog (retQ [(3, none)] k) (env0 args 26) h) : CallE Try.prog fn_impl_System_relevant args h k := enter Try.func95 rfl IR_impl_System_relevant hargs hw

def H_spec_LabelsValid : Hint := ⟨[(0, false), (2, false), (3, false)], [[1]]⟩
def K97_1 : C := .seq (.pl <| .st (.ext 3 3) <|
    .st (.act none (.px (some 3) (.mv (.v 0)))) <|
    .st (.act none (.px (some 4) (.lenV (.v 3)))) <|
    .st (.act none (.px (some 5) (.bin .eql (.v 4) (.c (.int .i64 3))))) <|
    .st (.act none (.px (some 1) (.mv (.v 5)))) .done) (.ret)
@[simp] def W97_1 := @C.wpe _ _ K97_1.eq_1
def K97_2 : C := .pl <| .st (.ext 3 2) <|
    .st (.act none (.px (some 3) (.mv (.v 2)))) <|
    .st (.act none (.px (some 4) (.bin .add (.v 3) (.c (.int .i64 1))))) <|
    .st (.act none (.px (some 2) (.mv (.v 4)))) .done
@[simp] def W97_2 := @C.wpe _ _ K97_2.eq_1
def K97_3 : C := .seq (.pl <| .st (.ext 3 0) <|
    .st (.act none (.px (some 1) (.mv (.c (.bool false))))) .done) (.ret)
@[simp] def W97_3 := @C.wpe _ _ K97_3.eq_1
def K97_4 : C := .cond 3 (.v 8) K97_3 (.skip)
@[simp] def W97_4 := @C.wpe _ _ K97_4.eq_1
def K97_5 : Pl := .st (.act none (.px (some 8) (.un .not (.v 7)))) .done
@[simp] def W97_5 := @Pl.wpe _ _ K97_5.eq_1
def K97_6 : C := .seq (.block 1 (.seq (.pl <| .st (.ext 3 6) <|
    .st (.act none (.px (some 3) (.mv (.v 0)))) <|
    .st (.act none (.px (some 4) (.mv (.v 2)))) <|
    .st (.act none (.px (some 5) (.ia 3 (.v 3) (.v 4)))) <|
    .st (.act none (.ld (some 6) (.v 5) (some 3))) <|
    .st (.act none (.ex (some 7) (.call fn_spec_ExprValid [.v 6]))) K97_5) K97_4)) K97_2
@[simp] def W97_6 := @C.wpe _ _ K97_6.eq_1
def K97_7 : C := .cond 3 (.v 6) (.skip) (.exit 0)
@[simp] def W97_7 := @C.wpe _ _ K97_7.eq_1
def K97_8 : C := .seq (.seq (.pl <| .st (.ext 3 4) <|
    .st (.act none (.px (some 3) (.mv (.v 2)))) <|
    .st (.act none (.px (some 4) (.mv (.v 0)))) <|
    .st (.act none (.px (some 5) (.lenV (.v 4)))) <|
    .st (.act none (.px (some 6) (.bin .lss (.v 3) (.v 5)))) .done) K97_7) K97_6
@[simp] def W97_8 := @C.wpe _ _ K97_8.eq_1
def K97_9 : C := .block 0 (.loop 3 [1] K97_8)
@[simp] def W97_9 := @C.wpe _ _ K97_9.eq_1
def K97_10 : C := .seq (.seq (.pl <| .st (.ext 3 0) <|
    .st (.act none (.px (some 2) (.mv (.c (.int .i64 0))))) .done) K97_9) K97_1
@[simp] def W97_10 := @C.wpe _ _ K97_10.eq_1
def B_spec_LabelsValid : C := .seq (.pl <| .st (.ext 3 0) <|
    .st (.act none (.px (some 1) (.mv (.c (.bool false))))) .done) K97_10
@[simp] def WB_spec_LabelsValid := @C.wpe _ _ B_spec_LabelsValid.eq_1
def R_spec_LabelsValid : FIR := ⟨B_spec_LabelsValid, 3, [(1, none)]⟩
theorem IR_spec_LabelsValid : cfun Try.prog H_spec_LabelsValid Try.f97 = some R_spec_LabelsValid := by kernel_rfl
theorem EN_spec_LabelsValid {args : List Value} {h : Heap} {k : Value → Heap → Prop} (hargs : args.length = 1) (hw : B_spec_LabelsValid.wp Try.prog (retQ [(1, none)] k) (env0 args 3) h) : CallE Try.prog fn_spec_LabelsValid args h k := enter Try.func97 rfl IR_spec_LabelsValid hargs hw

def H_spec_RelevantVars : Hint := ⟨[(0, false), (1, false), (2, true), (4, false), (5, false), (6, false), (7, false), (8, false), (9, false), (10, false), (11, false), (12, false), (13, true)], [[0, 3, 4, 7, 8, 9, 10, 11, 12], [0, 1, 3, 4, 6, 8, 9, 10, 11, 12], [0, 1, 3, 4, 6, 9, 10, 11, 12], [0, 1, 3, 4, 6, 7, 8, 10, 11, 12], [0, 1, 3, 4, 6, 7, 8, 11, 12], [0, 1, 3, 4, 6, 7, 8, 12]]⟩
def K56_1 : C := .seq (.pl <| .st (.ext 13 1) <|
    .st (.act none (.px (some 13) (.mv (.v 5)))) <|
    .st (.act none (.px (some 3) (.mv (.v 13)))) <|
    .st (.act none (.px (some 4) (.mv (.c (.bool true))))) .done) (.ret)
@[simp] def W56_1 := @C.wpe _ _ K56_1.eq_1
def K56_2 : C := .pl <| .st (.ext 13 2) <|
    .st (.act none (.px (some 13) (.mv (.v 9)))) <|
    .st (.act none (.px (some 14) (.bin .add (.v 13) (.c (.int .i64 1))))) <|
    .st (.act none (.px (some 9) (.mv (.v 14)))) .done
@[simp] def W56_2 := @C.wpe _ _ K56_2.eq_1
def K56_3 : C := .pl <| .st (.ext 13 2) <|
    .st (.act none (.px (some 13) (.mv (.v 10)))) <|
    .st (.act none (.px (some 14) (.bin .add (.v 13) (.c (.int .i64 1))))) <|
    .st (.act none (.px (some 10) (.mv (.v 14)))) .done
@[simp] def W56_3 := @C.wpe _ _ K56_3.eq_1
def K56_4 : C := .pl <| .st (.ext 13 2) <|
    .st (.act none (.px (some 13) (.mv (.v 11)))) <|
    .st (.act none (.px (some 14) (.bin .add (.v 13) (.c (.int .i64 1))))) <|
    .st (.act none (.px (some 11) (.mv (.v 14)))) .done
@[simp] def W56_4 := @C.wpe _ _ K56_4.eq_1
def K56_5 : Pl := .st (.act none (.px (some 5) (.mv (.v 16)))) .done
@[simp] def W56_5 := @Pl.wpe _ _ K56_5.eq_1
def K56_6 : C := .pl <| .st (.ext 13 4) <|
    .st (.act none (.px (some 13) (.mv (.v 5)))) <|
    .st (.act none (.als 14 none 12)) <|
    .st (.act none (.pget (some 15) (some 14) 12 6 (some 3))) <|
    .st (.act none (.ex (some 16) (.call fn_spec_l1Mark [.v 13, .v 15]))) K56_5
@[simp] def W56_6 := @C.wpe _ _ K56_6.eq_1
def K56_7 : C := .cond 13 (.v 22) K56_6 (.skip)
@[simp] def W56_7 := @C.wpe _ _ K56_7.eq_1
def K56_8 : C := .seq (.pl <| .st (.ext 13 10) <|
    .st (.act none (.als 13 none 12)) <|
    .st (.act none (.pget (some 14) (some 13) 12 5 none)) <|
    .st (.act none (.px (some 15) (.bin .geq (.v 14) (.c (.int .i64 0))))) <|
    .st (.act none (.px (some 16) (.mv (.v 15)))) <|
    .st (.act (some (.v 16, true)) (.px (some 17) (.mv (.v 5)))) <|
    .st (.act (some (.v 16, true)) (.als 18 none 12)) <|
    .st (.act (some (.v 16, true)) (.pget (some 19) (some 18) 12 5 none)) <|
    .st (.act (some (.v 16, true)) (.px (some 20) (.ia 1 (.v 17) (.v 19)))) <|
    .st (.act (some (.v 16, true)) (.ld (some 21) (.v 20) none)) <|
    .st (.act none (.px (some 22) (.pick (.v 16) (.v 21) (.c (.bool false))))) .done) K56_7
@[simp] def W56_8 := @C.wpe _ _ K56_8.eq_1
def K56_9 : C := .seq (.block 11 (.seq (.pl <| .st (.ext 13 9) <|
    .st (.act none (.als 13 none 2)) <|
    .st (.act none (.pget (some 14) (some 13) 2 1 none)) <|
    .st (.act none (.px (some 15) (.mv (.v 10)))) <|
    .st (.act none (.px (some 16) (.ia 2 (.v 14) (.v 15)))) <|
    .st (.act none (.px (some 17) (.fa 1 (.v 16)))) <|
    .st (.act none (.ld (some 18) (.v 17) none)) <|
    .st (.act none (.px (some 19) (.mv (.v 11)))) <|
    .st (.act none (.px (some 20) (.ia 10 (.v 18) (.v 19)))) <|
    .st (.act none (.ld (some 21) (.v 20) (some 10))) <|
    .st (.act none (.pnew 12 (.c (.agg #[.int .i64 0, .int .i64 0, .int .i64 0, .int .i64 0, .slice none 0 0, .int .i64 0, .int .i64 0, .int .i64 0, .slice none 0 0, .int .i64 0])) [])) <|
    .st (.act none (.pset none 12 0 10 (.v 21))) .done) K56_8)) K56_4
@[simp] def W56_9 := @C.wpe _ _ K56_9.eq_1
def K56_10 : C := .cond 13 (.v 21) (.skip) (.exit 10)
@[simp] def W56_10 := @C.wpe _ _ K56_10.eq_1
def K56_11 : C := .seq (.seq (.pl <| .st (.ext 13 9) <|
    .st (.act none (.px (some 13) (.mv (.v 11)))) <|
    .st (.act none (.als 14 none 2)) <|
    .st (.act none (.pget (some 15) (some 14) 2 1 none)) <|
    .st (.act none (.px (some 16) (.mv (.v 10)))) <|
    .st (.act none (.px (some 17) (.ia 2 (.v 15) (.v 16)))) <|
    .st (.act none (.px (some 18) (.fa 1 (.v 17)))) <|
    .st (.act none (.ld (some 19) (.v 18) none)) <|
    .st (.act none (.px (some 20) (.lenV (.v 19)))) <|
    .st (.act none (.px (some 21) (.bin .lss (.v 13) (.v 20)))) .done) K56_10) K56_9
@[simp] def W56_11 := @C.wpe _ _ K56_11.eq_1
def K56_12 : C := .block 10 (.loop 13 [0, 1, 3, 4, 6, 7, 8, 12] K56_11)
@[simp] def W56_12 := @C.wpe _ _ K56_12.eq_1
def K56_13 : C := .seq (.block 9 (.seq (.pl <| .st (.ext 13 0) <|
    .st (.act none (.px (some 11) (.mv (.c (.int .i64 0))))) .done) K56_12)) K56_3
@[simp] def W56_13 := @C.wpe _ _ K56_13.eq_1
def K56_14 : C := .cond 13 (.v 17) (.skip) (.exit 8)
@[simp] def W56_14 := @C.wpe _ _ K56_14.eq_1
def K56_15 : C := .seq (.seq (.pl <| .st (.ext 13 5) <|
    .st (.act none (.px (some 13) (.mv (.v 10)))) <|
    .st (.act none (.als 14 none 2)) <|
    .st (.act none (.pget (some 15) (some 14) 2 1 none)) <|
    .st (.act none (.px (some 16) (.lenV (.v 15)))) <|
    .st (.act none (.px (some 17) (.bin .lss (.v 13) (.v 16)))) .done) K56_14) K56_13
@[simp] def W56_15 := @C.wpe _ _ K56_15.eq_1
def K56_16 : C := .block 8 (.loop 13 [0, 1, 3, 4, 6, 7, 8, 11, 12] K56_15)
@[simp] def W56_16 := @C.wpe _ _ K56_16.eq_1
def K56_17 : C := .seq (.block 7 (.seq (.pl <| .st (.ext 13 0) <|
    .st (.act none (.px (some 10) (.mv (.c (.int .i64 0))))) .done) K56_16)) K56_2
@[simp] def W56_17 := @C.wpe _ _ K56_17.eq_1
def K56_18 : C := .cond 13 (.v 14) (.skip) (.exit 6)
@[simp] def W56_18 := @C.wpe _ _ K56_18.eq_1
def K56_19 : C := .seq (.seq (.pl <| .st (.ext 13 2) <|
    .st (.act none (.px (some 13) (.mv (.v 9)))) <|
    .st (.act none (.px (some 14) (.bin .lss (.v 13) (.c (.int .i64 3))))) .done) K56_18) K56_17
@[simp] def W56_19 := @C.wpe _ _ K56_19.eq_1
def K56_20 : C := .block 6 (.loop 13 [0, 1, 3, 4, 6, 7, 8, 10, 11, 12] K56_19)
@[simp] def W56_20 := @C.wpe _ _ K56_20.eq_1
def K56_21 : C := .seq (.seq (.pl <| .st (.ext 13 0) <|
    .st (.act none (.px (some 9) (.mv (.c (.int .i64 0))))) .done) K56_20) K56_1
@[simp] def W56_21 := @C.wpe _ _ K56_21.eq_1
def K56_22 : C := .pl <| .st (.ext 13 2) <|
    .st (.act none (.px (some 13) (.mv (.v 7)))) <|
    .st (.act none (.px (some 14) (.bin .add (.v 13) (.c (.int .i64 1))))) <|
    .st (.act none (.px (some 7) (.mv (.v 14)))) .done
@[simp] def W56_22 := @C.wpe _ _ K56_22.eq_1
def K56_23 : C := .pl <| .st (.ext 13 2) <|
    .st (.act none (.px (some 13) (.mv (.v 8)))) <|
    .st (.act none (.px (some 14) (.bin .add (.v 13) (.c (.int .i64 1))))) <|
    .st (.act none (.px (some 8) (.mv (.v 14)))) .done
@[simp] def W56_23 := @C.wpe _ _ K56_23.eq_1
def K56_24 : Pl := .st (.act none (.px (some 5) (.mv (.v 24)))) .done
@[simp] def W56_24 := @Pl.wpe _ _ K56_24.eq_1
def K56_25 : C := .seq (.block 5 (.pl <| .st (.ext 13 12) <|
    .st (.act none (.px (some 13) (.mv (.v 5)))) <|
    .st (.act none (.als 14 none 2)) <|
    .st (.act none (.pget (some 15) (some 14) 2 1 none)) <|
    .st (.act none (.px (some 16) (.mv (.v 7)))) <|
    .st (.act none (.px (some 17) (.ia 2 (.v 15) (.v 16)))) <|
    .st (.act none (.px (some 18) (.fa 1 (.v 17)))) <|
    .st (.act none (.ld (some 19) (.v 18) none)) <|
    .st (.act none (.px (some 20) (.mv (.v 8)))) <|
    .st (.act none (.px (some 21) (.ia 10 (.v 19) (.v 20)))) <|
    .st (.act none (.px (some 22) (.fa 2 (.v 21)))) <|
    .st (.act none (.ld (some 23) (.v 22) (some 3))) <|
    .st (.act none (.ex (some 24) (.call fn_spec_l1Mark [.v 13, .v 23]))) K56_24)) K56_23
@[simp] def W56_25 := @C.wpe _ _ K56_25.eq_1
def K56_26 : C := .cond 13 (.v 21) (.skip) (.exit 4)
@[simp] def W56_26 := @C.wpe _ _ K56_26.eq_1
def K56_27 : C := .seq (.seq (.pl <| .st (.ext 13 9) <|
    .st (.act none (.px (some 13) (.mv (.v 8)))) <|
    .st (.act none (.als 14 none 2)) <|
    .st (.act none (.pget (some 15) (some 14) 2 1 none)) <|
    .st (.act none (.px (some 16) (.mv (.v 7)))) <|
    .st (.act none (.px (some 17) (.ia 2 (.v 15) (.v 16)))) <|
    .st (.act none (.px (some 18) (.fa 1 (.v 17)))) <|
    .st (.act none (.ld (some 19) (.v 18) none)) <|
    .st (.act none (.px (some 20) (.lenV (.v 19)))) <|
    .st (.act none (.px (some 21) (.bin .lss (.v 13) (.v 20)))) .done) K56_26) K56_25
@[simp] def W56_27 := @C.wpe _ _ K56_27.eq_1
def K56_28 : C := .block 4 (.loop 13 [0, 1, 3, 4, 6, 9, 10, 11, 12] K56_27)
@[simp] def W56_28 := @C.wpe _ _ K56_28.eq_1
def K56_29 : C := .seq (.block 3 (.seq (.pl <| .st (.ext 13 0) <|
    .st (.act none (.px (some 8) (.mv (.c (.int .i64 0))))) .done) K56_28)) K56_22
@[simp] def W56_29 := @C.wpe _ _ K56_29.eq_1
def K56_30 : C := .cond 13 (.v 17) (.skip) (.exit 2)
@[simp] def W56_30 := @C.wpe _ _ K56_30.eq_1
def K56_31 : C := .seq (.seq (.pl <| .st (.ext 13 5) <|
    .st (.act none (.px (some 13) (.mv (.v 7)))) <|
    .st (.act none (.als 14 none 2)) <|
    .st (.act none (.pget (some 15) (some 14) 2 1 none)) <|
    .st (.act none (.px (some 16) (.lenV (.v 15)))) <|
    .st (.act none (.px (some 17) (.bin .lss (.v 13) (.v 16)))) .done) K56_30) K56_29
@[simp] def W56_31 := @C.wpe _ _ K56_31.eq_1
def K56_32 : C := .block 2 (.loop 13 [0, 1, 3, 4, 6, 8, 9, 10, 11, 12] K56_31)
@[simp] def W56_32 := @C.wpe _ _ K56_32.eq_1
def K56_33 : C := .seq (.seq (.pl <| .st (.ext 13 0) <|
    .st (.act none (.px (some 7) (.mv (.c (.int .i64 0))))) .done) K56_32) K56_21
@[simp] def W56_33 := @C.wpe _ _ K56_33.eq_1
def K56_34 : C := .pl <| .st (.ext 13 2) <|
    .st (.act none (.px (some 13) (.mv (.v 6)))) <|
    .st (.act none (.px (some 14) (.bin .add (.v 13) (.c (.int .i64 1))))) <|
    .st (.act none (.px (some 6) (.mv (.v 14)))) .done
@[simp] def W56_34 := @C.wpe _ _ K56_34.eq_1
def K56_35 : Pl := .st (.act none (.px (some 5) (.mv (.v 18)))) .done
@[simp] def W56_35 := @Pl.wpe _ _ K56_35.eq_1
def K56_36 : C := .seq (.block 1 (.pl <| .st (.ext 13 6) <|
    .st (.act none (.px (some 13) (.mv (.v 5)))) <|
    .st (.act none (.px (some 14) (.mv (.v 1)))) <|
    .st (.act none (.px (some 15) (.mv (.v 6)))) <|
    .st (.act none (.px (some 16) (.ia 3 (.v 14) (.v 15)))) <|
    .st (.act none (.ld (some 17) (.v 16) (some 3))) <|
    .st (.act none (.ex (some 18) (.call fn_spec_l1Mark [.v 13, .v 17]))) K56_35)) K56_34
@[simp] def W56_36 := @C.wpe _ _ K56_36.eq_1
def K56_37 : C := .cond 13 (.v 16) (.skip) (.exit 0)
@[simp] def W56_37 := @C.wpe _ _ K56_37.eq_1
def K56_38 : C := .seq (.seq (.pl <| .st (.ext 13 4) <|
    .st (.act none (.px (some 13) (.mv (.v 6)))) <|
    .st (.act none (.px (some 14) (.mv (.v 1)))) <|
    .st (.act none (.px (some 15) (.lenV (.v 14)))) <|
    .st (.act none (.px (some 16) (.bin .lss (.v 13) (.v 15)))) .done) K56_37) K56_36
@[simp] def W56_38 := @C.wpe _ _ K56_38.eq_1
def K56_39 : C := .block 0 (.loop 13 [0, 3, 4, 7, 8, 9, 10, 11, 12] K56_38)
@[simp] def W56_39 := @C.wpe _ _ K56_39.eq_1
def K56_40 : C := .seq (.seq (.pl <| .st (.ext 13 0) <|
    .st (.act none (.px (some 6) (.mv (.c (.int .i64 0))))) .done) K56_39) K56_33
@[simp] def W56_40 := @C.wpe _ _ K56_40.eq_1
def K56_41 : Pl := .st (.act none (.px (some 5) (.mv (.v 13)))) .done
@[simp] def W56_41 := @Pl.wpe _ _ K56_41.eq_1
def K56_42 : C := .seq (.pl <| .st (.ext 13 1) <|
    .st (.act none (.ex (some 13) (.mks 1 1 [.bool false] (.c (.int .i64 3)) (.c (.int .i64 3))))) K56_41) K56_40
@[simp] def W56_42 := @C.wpe _ _ K56_42.eq_1
def K56_43 : Pl := .st (.act none (.px (some 3) (.mv (.v 13)))) <|
    .st (.act none (.px (some 4) (.mv (.c (.bool false))))) .done
@[simp] def W56_43 := @Pl.wpe _ _ K56_43.eq_1
def K56_44 : C := .seq (.pl <| .st (.ext 13 1) <|
    .st (.act none (.ex (some 13) (.bls 1 0 [.bool false] []))) K56_43) (.ret)
@[simp] def W56_44 := @C.wpe _ _ K56_44.eq_1
def K56_45 : C := .cond 13 (.v 20) K56_44 (.skip)
@[simp] def W56_45 := @C.wpe _ _ K56_45.eq_1
def K56_46 : Pl := .st (.act (some (.v 16, false)) (.px (some 19) (.un .not (.v 18)))) <|
    .st (.act none (.px (some 20) (.pick (.v 16) (.c (.bool true)) (.v 19)))) .done
@[simp] def W56_46 := @Pl.wpe _ _ K56_46.eq_1
def K56_47 : Pl := .st (.act none (.px (some 15) (.un .not (.v 14)))) <|
    .st (.act none (.px (some 16) (.mv (.v 15)))) <|
    .st (.act (some (.v 16, false)) (.px (some 17) (.mv (.v 1)))) <|
    .st (.act (some (.v 16, false)) (.ex (some 18) (.call fn_spec_LabelsValid [.v 17]))) K56_46
@[simp] def W56_47 := @Pl.wpe _ _ K56_47.eq_1
def K56_48 : C := .seq (.seq (.pl <| .st (.ext 13 8) <|
    .st (.act none (.pget (some 13) none 2 0 (some 2))) <|
    .st (.act none (.ex (some 14) (.call fn_spec_SystemValid [.v 13]))) K56_47) K56_45) K56_42
@[simp] def W56_48 := @C.wpe _ _ K56_48.eq_1
def B_spec_RelevantVars : C := .seq (.pl <| .st (.ext 13 0) <|
    .st (.act none (.pnew 2 (.v 0) [])) <|
    .st (.act none (.px (some 3) (.mv (.c (.slice none 0 0))))) <|
    .st (.act none (.px (some 4) (.mv (.c (.bool false))))) .done) K56_48
@[simp] def WB_spec_RelevantVars := @C.wpe _ _ B_spec_RelevantVars.eq_1
def R_spec_RelevantVars : FIR := ⟨B_spec_RelevantVars, 13, [(3, none), (4, none)]⟩
theorem IR_spec_RelevantVars : cfun Try.prog H_spec_RelevantVars Try.f56 = some R_spec_RelevantVars := by kernel_rfl
theorem EN_spec_RelevantVars {args : List Value} {h : Heap} {k : Value → Heap → Prop} (hargs : args.length = 2) (hw : B_spec_RelevantVars.wp Try.prog (retQ [(3, none), (4, none)] k) (env0 args 13) h) : CallE Try.prog fn_spec_RelevantVars args h k := enter Try.func56 rfl IR_spec_RelevantVars hargs hw

def H_spec_l14Labels : Hint := ⟨[(0, false), (2, false), (3, false), (4, false)], [[1]]⟩
def K49_1 : C := .seq (.pl <| .st (.ext 4 1) <|
    .st (.act none (.px (some 4) (.mv (.v 2)))) <|
    .st (.act none (.px (some 1) (.mv (.v 4)))) .done) (.ret)
@[simp] def W49_1 := @C.wpe _ _ K49_1.eq_1
def K49_2 : C := .pl <| .st (.ext 4 2) <|
    .st (.act none (.px (some 4) (.mv (.v 3)))) <|
    .st (.act none (.px (some 5) (.bin .add (.v 4) (.c (.int .i64 1))))) <|
    .st (.act none (.px (some 3) (.mv (.v 5)))) .done
@[simp] def W49_2 := @C.wpe _ _ K49_2.eq_1
def K49_3 : Pl := .st (.act none (.px (some 11) (.build [.int .i64 0, .int .i64 0, .slice none 0 0] [(0, 1, .c (.int .i64 6)), (2, 1, .v 10)]))) <|
    .st (.act none (.px (some 12) (.ia 3 (.v 4) (.v 5)))) <|
    .st (.act none (.ex none (.store 3 (.v 12) (.v 11)))) .done
@[simp] def W49_3 := @Pl.wpe _ _ K49_3.eq_1
def K49_4 : Pl := .st (.act none (.px (some 9) (.build [.int .i64 0, .int .i64 0, .slice none 0 0] [(0, 1, .c (.int .i64 1)), (1, 1, .v 8)]))) <|
    .st (.act none (.ex (some 10) (.bls 3 2 [.int .i64 0, .int .i64 0, .slice none 0 0] [(0, 3, .v 6), (3, 3, .v 9)]))) K49_3
@[simp] def W49_4 := @Pl.wpe _ _ K49_4.eq_1
def K49_5 : C := .pl <| .st (.ext 4 9) <|
    .st (.act none (.px (some 4) (.mv (.v 2)))) <|
    .st (.act none (.px (some 5) (.mv (.v 3)))) <|
    .st (.act none (.px (some 6) (.build [.int .i64 0, .int .i64 0, .slice none 0 0] [(0, 1, .c (.int .i64 2))]))) <|
    .st (.act none (.px (some 7) (.mv (.v 0)))) <|
    .st (.act none (.ex (some 8) (.call fn_spec_l16Rd_pick [.v 7, .c (.int .i64 3)]))) K49_4
@[simp] def W49_5 := @C.wpe _ _ K49_5.eq_1
def K49_6 : C := .cond 4 (.v 6) K49_5 (.skip)
@[simp] def W49_6 := @C.wpe _ _ K49_6.eq_1
def K49_7 : Pl := .st (.act none (.px (some 6) (.bin .eql (.v 5) (.c (.int .i64 0))))) .done
@[simp] def W49_7 := @Pl.wpe _ _ K49_7.eq_1
def K49_8 : C := .seq (.block 1 (.seq (.pl <| .st (.ext 4 3) <|
    .st (.act none (.px (some 4) (.mv (.v 0)))) <|
    .st (.act none (.ex (some 5) (.call fn_spec_l16Rd_pick [.v 4, .c (.int .i64 2)]))) K49_7) K49_6)) K49_2
@[simp] def W49_8 := @C.wpe _ _ K49_8.eq_1
def K49_9 : C := .cond 4 (.v 7) (.skip) (.exit 0)
@[simp] def W49_9 := @C.wpe _ _ K49_9.eq_1
def K49_10 : C := .seq (.seq (.pl <| .st (.ext 4 4) <|
    .st (.act none (.px (some 4) (.mv (.v 3)))) <|
    .st (.act none (.px (some 5) (.mv (.v 2)))) <|
    .st (.act none (.px (some 6) (.lenV (.v 5)))) <|
    .st (.act none (.px (some 7) (.bin .lss (.v 4) (.v 6)))) .done) K49_9) K49_8
@[simp] def W49_10 := @C.wpe _ _ K49_10.eq_1
def K49_11 : C := .block 0 (.loop 4 [1] K49_10)
@[simp] def W49_11 := @C.wpe _ _ K49_11.eq_1
def K49_12 : C := .seq (.seq (.pl <| .st (.ext 4 0) <|
    .st (.act none (.px (some 3) (.mv (.c (.int .i64 0))))) .done) K49_11) K49_1
@[simp] def W49_12 := @C.wpe _ _ K49_12.eq_1
def K49_13 : Pl := .st (.act none (.px (some 2) (.mv (.v 5)))) .done
@[simp] def W49_13 := @Pl.wpe _ _ K49_13.eq_1
def K49_14 : C := .seq (.pl <| .st (.ext 4 2) <|
    .st (.act none (.px (some 4) (.mv (.v 0)))) <|
    .st (.act none (.ex (some 5) (.call fn_spec_l8Labels [.v 4]))) K49_13) K49_12
@[simp] def W49_14 := @C.wpe _ _ K49_14.eq_1
def B_spec_l14Labels : C := .seq (.pl <| .st (.ext 4 0) <|
    .st (.act none (.px (some 1) (.mv (.c (.slice none 0 0))))) .done) K49_14
@[simp] def WB_spec_l14Labels := @C.wpe _ _ B_spec_l14Labels.eq_1
def R_spec_l14Labels : FIR := ⟨B_spec_l14Labels, 4, [(1, none)]⟩
theorem IR_spec_l14Labels : cfun Try.prog H_spec_l14Labels Try.f49 = some R_spec_l14Labels := by kernel_rfl
theorem EN_spec_l14Labels {args : List Value} {h : Heap} {k : Value → Heap → Prop} (hargs : args.length = 1) (hw : B_spec_l14Labels.wp Try.prog (retQ [(1, none)] k) (env0 args 4) h) : CallE Try.prog fn_spec_l14Labels args h k := enter Try.func49 rfl IR_spec_l14Labels hargs hw

def H_spec_l14System : Hint := ⟨[(0, false), (2, true), (3, true), (4, false), (5, false)], [[4], []]⟩
def K50_1 : C := .seq (.pl <| .st (.ext 5 1) <|
    .st (.act none (.pget (some 5) none 2 0 (some 2))) <|
    .st (.act none (.pset none 1 0 2 (.v 5))) .done) (.ret)
@[simp] def W50_1 := @C.wpe _ _ K50_1.eq_1
def K50_2 : C := .pl <| .st (.ext 5 2) <|
    .st (.act none (.px (some 5) (.mv (.v 3)))) <|
    .st (.act none (.px (some 6) (.bin .add (.v 5) (.c (.int .i64 1))))) <|
    .st (.act none (.px (some 3) (.mv (.v 6)))) .done
@[simp] def W50_2 := @C.wpe _ _ K50_2.eq_1
def K50_3 : C := .pl <| .st (.ext 5 2) <|
    .st (.act none (.px (some 5) (.mv (.v 4)))) <|
    .st (.act none (.px (some 6) (.bin .add (.v 5) (.c (.int .i64 1))))) <|
    .st (.act none (.px (some 4) (.mv (.v 6)))) .done
@[simp] def W50_3 := @C.wpe _ _ K50_3.eq_1
def K50_4 : C := .pl <| .st (.ext 5 10) <|
    .st (.act none (.als 5 none 2)) <|
    .st (.act none (.pget (some 6) (some 5) 2 1 none)) <|
    .st (.act none (.px (some 7) (.mv (.v 3)))) <|
    .st (.act none (.px (some 8) (.ia 2 (.v 6) (.v 7)))) <|
    .st (.act none (.px (some 9) (.fa 1 (.v 8)))) <|
    .st (.act none (.ld (some 10) (.v 9) none)) <|
    .st (.act none (.px (some 11) (.mv (.v 4)))) <|
    .st (.act none (.px (some 12) (.build [.int .i64 0, .int .i64 0, .slice none 0 0] [(0, 1, .c (.int .i64 1)), (1, 1, .c (.int .i64 1))]))) <|
    .st (.act none (.px (some 13) (.ia 10 (.v 10) (.v 11)))) <|
    .st (.act none (.px (some 14) (.fa 2 (.v 13)))) <|
    .st (.act none (.ex none (.store 3 (.v 14) (.v 12)))) .done
@[simp] def W50_4 := @C.wpe _ _ K50_4.eq_1
def K50_5 : C := .cond 5 (.v 7) K50_4 (.skip)
@[simp] def W50_5 := @C.wpe _ _ K50_5.eq_1
def K50_6 : Pl := .st (.act none (.px (some 7) (.bin .gtr (.v 6) (.c (.int .i64 0))))) .done
@[simp] def W50_6 := @Pl.wpe _ _ K50_6.eq_1
def K50_7 : C := .seq (.block 3 (.seq (.pl <| .st (.ext 5 3) <|
    .st (.act none (.px (some 5) (.mv (.v 0)))) <|
    .st (.act none (.ex (some 6) (.call fn_spec_l16Rd_pick [.v 5, .c (.int .i64 3)]))) K50_6) K50_5)) K50_3
@[simp] def W50_7 := @C.wpe _ _ K50_7.eq_1
def K50_8 : C := .cond 5 (.v 13) (.skip) (.exit 2)
@[simp] def W50_8 := @C.wpe _ _ K50_8.eq_1
def K50_9 : C := .seq (.seq (.pl <| .st (.ext 5 9) <|
    .st (.act none (.px (some 5) (.mv (.v 4)))) <|
    .st (.act none (.als 6 none 2)) <|
    .st (.act none (.pget (some 7) (some 6) 2 1 none)) <|
    .st (.act none (.px (some 8) (.mv (.v 3)))) <|
    .st (.act none (.px (some 9) (.ia 2 (.v 7) (.v 8)))) <|
    .st (.act none (.px (some 10) (.fa 1 (.v 9)))) <|
    .st (.act none (.ld (some 11) (.v 10) none)) <|
    .st (.act none (.px (some 12) (.lenV (.v 11)))) <|
    .st (.act none (.px (some 13) (.bin .lss (.v 5) (.v 12)))) .done) K50_8) K50_7
@[simp] def W50_9 := @C.wpe _ _ K50_9.eq_1
def K50_10 : C := .block 2 (.loop 5 [] K50_9)
@[simp] def W50_10 := @C.wpe _ _ K50_10.eq_1
def K50_11 : C := .seq (.block 1 (.seq (.pl <| .st (.ext 5 0) <|
    .st (.act none (.px (some 4) (.mv (.c (.int .i64 0))))) .done) K50_10)) K50_2
@[simp] def W50_11 := @C.wpe _ _ K50_11.eq_1
def K50_12 : C := .cond 5 (.v 9) (.skip) (.exit 0)
@[simp] def W50_12 := @C.wpe _ _ K50_12.eq_1
def K50_13 : C := .seq (.seq (.pl <| .st (.ext 5 5) <|
    .st (.act none (.px (some 5) (.mv (.v 3)))) <|
    .st (.act none (.als 6 none 2)) <|
    .st (.act none (.pget (some 7) (some 6) 2 1 none)) <|
    .st (.act none (.px (some 8) (.lenV (.v 7)))) <|
    .st (.act none (.px (some 9) (.bin .lss (.v 5) (.v 8)))) .done) K50_12) K50_11
@[simp] def W50_13 := @C.wpe _ _ K50_13.eq_1
def K50_14 : C := .block 0 (.loop 5 [4] K50_13)
@[simp] def W50_14 := @C.wpe _ _ K50_14.eq_1
def K50_15 : C := .seq (.seq (.pl <| .st (.ext 5 0) <|
    .st (.act none (.px (some 3) (.mv (.c (.int .i64 0))))) .done) K50_14) K50_1
@[simp] def W50_15 := @C.wpe _ _ K50_15.eq_1
def K50_16 : Pl := .st (.act none (.pnew 2 (.c (.agg #[.slice none 0 0, .slice none 0 0])) [])) <|
    .st (.act none (.pset none 2 0 2 (.v 6))) .done
@[simp] def W50_16 := @Pl.wpe _ _ K50_16.eq_1
def K50_17 : C := .seq (.pl <| .st (.ext 5 2) <|
    .st (.act none (.px (some 5) (.mv (.v 0)))) <|
    .st (.act none (.ex (some 6) (.call fn_spec_l2System [.v 5]))) K50_16) K50_15
@[simp] def W50_17 := @C.wpe _ _ K50_17.eq_1
def B_spec_l14System : C := .seq (.pl <| .st (.ext 5 0) <|
    .st (.act none (.pnew 1 (.c (.agg #[.slice none 0 0, .slice none 0 0])) [])) .done) K50_17
@[simp] def WB_spec_l14System := @C.wpe _ _ B_spec_l14System.eq_1
def R_spec_l14System : FIR := ⟨B_spec_l14System, 5, [(1, some (some 2))]⟩
theorem IR_spec_l14System : cfun Try.prog H_spec_l14System Try.f50 = some R_spec_l14System := by kernel_rfl
theorem EN_spec_l14System {args : List Value} {h : Heap} {k : Value → Heap → Prop} (hargs : args.length = 1) (hw : B_spec_l14System.wp Try.prog (retQ [(1, some (some 2))] k) (env0 args 5) h) : CallE Try.prog fn_spec_l14System args h k := enter Try.func50 rfl IR_spec_l14System hargs hw

def H_spec_l1Mark : Hint := ⟨[(0, false), (1, false), (3, true), (4, false), (5, false)], [[1, 3]]⟩
def K98_1 : C := .seq (.pl <| .st (.ext 5 1) <|
    .st (.act none (.px (some 5) (.mv (.v 0)))) <|
    .st (.act none (.px (some 3) (.mv (.v 5)))) .done) (.ret)
@[simp] def W98_1 := @C.wpe _ _ K98_1.eq_1
def K98_2 : C := .pl <| .st (.ext 5 2) <|
    .st (.act none (.px (some 5) (.mv (.v 4)))) <|
    .st (.act none (.px (some 6) (.bin .add (.v 5) (.c (.int .i64 1))))) <|
    .st (.act none (.px (some 4) (.mv (.v 6)))) .done
@[simp] def W98_2 := @C.wpe _ _ K98_2.eq_1
def K98_3 : Pl := .st (.act none (.px (some 0) (.mv (.v 11)))) .done
@[simp] def W98_3 := @Pl.wpe _ _ K98_3.eq_1
def K98_4 : C := .seq (.block 1 (.pl <| .st (.ext 5 7) <|
    .st (.act none (.px (some 5) (.mv (.v 0)))) <|
    .st (.act none (.als 6 none 2)) <|
    .st (.act none (.pget (some 7) (some 6) 2 2 none)) <|
    .st (.act none (.px (some 8) (.mv (.v 4)))) <|
    .st (.act none (.px (some 9) (.ia 3 (.v 7) (.v 8)))) <|
    .st (.act none (.ld (some 10) (.v 9) (some 3))) <|
    .st (.act none (.ex (some 11) (.call fn_spec_l1Mark [.v 5, .v 10]))) K98_3)) K98_2
@[simp] def W98_4 := @C.wpe _ _ K98_4.eq_1
def K98_5 : C := .cond 5 (.v 9) (.skip) (.exit 0)
@[simp] def W98_5 := @C.wpe _ _ K98_5.eq_1
def K98_6 : C := .seq (.seq (.pl <| .st (.ext 5 5) <|
    .st (.act none (.px (some 5) (.mv (.v 4)))) <|
    .st (.act none (.als 6 none 2)) <|
    .st (.act none (.pget (some 7) (some 6) 2 2 none)) <|
    .st (.act none (.px (some 8) (.lenV (.v 7)))) <|
    .st (.act none (.px (some 9) (.bin .lss (.v 5) (.v 8)))) .done) K98_5) K98_4
@[simp] def W98_6 := @C.wpe _ _ K98_6.eq_1
def K98_7 : C := .block 0 (.loop 5 [1, 3] K98_6)
@[simp] def W98_7 := @C.wpe _ _ K98_7.eq_1
def K98_8 : C := .seq (.seq (.pl <| .st (.ext 5 0) <|
    .st (.act none (.px (some 4) (.mv (.c (.int .i64 0))))) .done) K98_7) K98_1
@[simp] def W98_8 := @C.wpe _ _ K98_8.eq_1
def K98_9 : C := .pl <| .st (.ext 5 4) <|
    .st (.act none (.px (some 5) (.mv (.v 0)))) <|
    .st (.act none (.als 6 none 2)) <|
    .st (.act none (.pget (some 7) (some 6) 2 1 none)) <|
    .st (.act none (.px (some 8) (.ia 1 (.v 5) (.v 7)))) <|
    .st (.act none (.ex none (.store 1 (.v 8) (.c (.bool true))))) .done
@[simp] def W98_9 := @C.wpe _ _ K98_9.eq_1
def K98_10 : C := .cond 5 (.v 7) K98_9 (.skip)
@[simp] def W98_10 := @C.wpe _ _ K98_10.eq_1
def K98_11 : C := .seq (.seq (.pl <| .st (.ext 5 3) <|
    .st (.act none (.als 5 none 2)) <|
    .st (.act none (.pget (some 6) (some 5) 2 0 none)) <|
    .st (.act none (.px (some 7) (.bin .eql (.v 6) (.c (.int .i64 2))))) .done) K98_10) K98_8
@[simp] def W98_11 := @C.wpe _ _ K98_11.eq_1
def B_spec_l1Mark : C := .seq (.pl <| .st (.ext 5 0) <|
    .st (.act none (.pnew 2 (.v 1) [])) <|
    .st (.act none (.px (some 3) (.mv (.c (.slice none 0 0))))) .done) K98_11
@[simp] def WB_spec_l1Mark := @C.wpe _ _ B_spec_l1Mark.eq_1
def R_spec_l1Mark : FIR := ⟨B_spec_l1Mark, 5, [(3, none)]⟩
theorem IR_spec_l1Mark : cfun Try.prog H_spec_l1Mark Try.f98 = some R_spec_l1Mark := by kernel_rfl
theorem EN_spec_l1Mark {args : List Value} {h : Heap} {k : Value → Heap → Prop} (hargs : args.length = 2) (hw : B_spec_l1Mark.wp Try.prog (retQ [(3, none)] k) (env0 args 5) h) : CallE Try.prog fn_spec_l1Mark args h k := enter Try.func98 rfl IR_spec_l1Mark hargs hw

def H_spec_l8Labels : Hint := ⟨[(0, false), (2, false), (3, false), (4, false), (5, true), (24, false)], [[1, 4, 5]]⟩
def K94_1 : C := .seq (.pl <| .st (.ext 6 1) <|
    .st (.act none (.px (some 6) (.mv (.v 2)))) <|
    .st (.act none (.px (some 1) (.mv (.v 6)))) .done) (.ret)
@[simp] def W94_1 := @C.wpe _ _ K94_1.eq_1
def K94_2 : C := .seq (.pl <| .st (.ext 6 2) <|
    .st (.act none (.px (some 6) (.mv (.v 2)))) <|
    .st (.act none (.px (some 7) (.sliceV 3 (.v 6) none (some (.c (.int .i64 2))) none))) <|
    .st (.act none (.px (some 1) (.mv (.v 7)))) .done) (.ret)
@[simp] def W94_2 := @C.wpe _ _ K94_2.eq_1
def K94_3 : Pl := .st (.act none (.px (some 14) (.ia 3 (.v 6) (.c (.int .i64 1))))) <|
    .st (.act none (.ex none (.store 3 (.v 14) (.v 13)))) .done
@[simp] def W94_3 := @Pl.wpe _ _ K94_3.eq_1
def K94_4 : Pl := .st (.act none (.ex (some 13) (.call fn_spec_l1Mutate [.v 7, .v 12]))) K94_3
@[simp] def W94_4 := @Pl.wpe _ _ K94_4.eq_1
def K94_5 : C := .pl <| .st (.ext 6 9) <|
    .st (.act none (.px (some 6) (.mv (.v 2)))) <|
    .st (.act none (.px (some 7) (.mv (.v 0)))) <|
    .st (.act none (.px (some 8) (.mv (.v 0)))) <|
    .st (.act none (.px (some 9) (.mv (.v 2)))) <|
    .st (.act none (.px (some 10) (.ia 3 (.v 9) (.c (.int .i64 1))))) <|
    .st (.act none (.ld (some 11) (.v 10) (some 3))) <|
    .st (.act none (.ex (some 12) (.call fn_spec_l1Mutate [.v 8, .v 11]))) K94_4
@[simp] def W94_5 := @C.wpe _ _ K94_5.eq_1
def K94_6 : C := .cond 6 (.v 7) K94_5 (.skip)
@[simp] def W94_6 := @C.wpe _ _ K94_6.eq_1
def K94_7 : C := .seq (.pl <| .st (.ext 6 2) <|
    .st (.act none (.px (some 6) (.bin .eql (.v 5) (.c (.int .i64 1))))) <|
    .st (.act none (.px (some 7) (.mv (.v 6)))) .done) K94_6
@[simp] def W94_7 := @C.wpe _ _ K94_7.eq_1
def K94_8 : C := .cond 6 (.v 7) K94_2 K94_7
@[simp] def W94_8 := @C.wpe _ _ K94_8.eq_1
def K94_9 : C := .block 2 (.seq (.pl <| .st (.ext 6 2) <|
    .st (.act none (.px (some 6) (.bin .eql (.v 5) (.c (.int .i64 0))))) <|
    .st (.act none (.px (some 7) (.mv (.v 6)))) .done) K94_8)
@[simp] def W94_9 := @C.wpe _ _ K94_9.eq_1
def K94_10 : C := .seq (.seq (.pl <| .st (.ext 6 1) <|
    .st (.act none (.px (some 6) (.mv (.v 0)))) <|
    .st (.act none (.ex (some 5) (.call fn_spec_l16Rd_pick [.v 6, .c (.int .i64 40)]))) .done) K94_9) K94_1
@[simp] def W94_10 := @C.wpe _ _ K94_10.eq_1
def K94_11 : C := .pl <| .st (.ext 6 2) <|
    .st (.act none (.px (some 6) (.mv (.v 3)))) <|
    .st (.act none (.px (some 7) (.bin .add (.v 6) (.c (.int .i64 1))))) <|
    .st (.act none (.px (some 3) (.mv (.v 7)))) .done
@[simp] def W94_11 := @C.wpe _ _ K94_11.eq_1
def K94_12 : Pl := .st (.act none (.px (some 2) (.mv (.v 9)))) .done
@[simp] def W94_12 := @Pl.wpe _ _ K94_12.eq_1
def K94_13 : C := .pl <| .st (.ext 6 4) <|
    .st (.act none (.px (some 6) (.mv (.v 2)))) <|
    .st (.act none (.pget (some 7) none 4 0 (some 3))) <|
    .st (.act none (.psl 8 [.int .i64 0, .int .i64 0, .slice none 0 0] [(0, 3, .v 7)])) <|
    .st (.act none (.ex (some 9) (.app 40 3 [.int .i64 0, .int .i64 0, .slice none 0 0] (.o (.v 6)) (.p 1 8)))) K94_12
@[simp] def W94_13 := @C.wpe _ _ K94_13.eq_1
def K94_14 : Pl := .st (.act none (.px (some 8) (.build [.int .i64 0, .int .i64 0, .slice none 0 0] [(0, 1, .c (.int .i64 2)), (1, 1, .v 7)]))) <|
    .st (.act none (.pset none 4 0 3 (.v 8))) .done
@[simp] def W94_14 := @Pl.wpe _ _ K94_14.eq_1
def K94_15 : C := .pl <| .st (.ext 6 3) <|
    .st (.act none (.px (some 6) (.mv (.v 0)))) <|
    .st (.act none (.ex (some 7) (.call fn_spec_l16Rd_pick [.v 6, .c (.int .i64 3)]))) K94_14
@[simp] def W94_15 := @C.wpe _ _ K94_15.eq_1
def K94_16 : C := .cond 6 (.v 8) K94_15 (.skip)
@[simp] def W94_16 := @C.wpe _ _ K94_16.eq_1
def K94_17 : C := .seq (.seq (.pl <| .st (.ext 6 3) <|
    .st (.act none (.als 6 none 4)) <|
    .st (.act none (.pget (some 7) (some 6) 4 0 none)) <|
    .st (.act none (.px (some 8) (.bin .eql (.v 7) (.c (.int .i64 1))))) .done) K94_16) K94_13
@[simp] def W94_17 := @C.wpe _ _ K94_17.eq_1
def K94_18 : Pl := .st (.act none (.pnew 4 (.c (.agg #[.int .i64 0, .int .i64 0, .slice none 0 0])) [])) <|
    .st (.act none (.pset none 4 0 3 (.v 7))) .done
@[simp] def W94_18 := @Pl.wpe _ _ K94_18.eq_1
def K94_19 : C := .seq (.block 1 (.seq (.pl <| .st (.ext 6 2) <|
    .st (.act none (.px (some 6) (.mv (.v 0)))) <|
    .st (.act none (.ex (some 7) (.call fn_spec_l2Guard [.v 6]))) K94_18) K94_17)) K94_11
@[simp] def W94_19 := @C.wpe _ _ K94_19.eq_1
def K94_20 : C := .cond 6 (.v 7) (.skip) (.exit 0)
@[simp] def W94_20 := @C.wpe _ _ K94_20.eq_1
def K94_21 : C := .seq (.seq (.pl <| .st (.ext 6 2) <|
    .st (.act none (.px (some 6) (.mv (.v 3)))) <|
    .st (.act none (.px (some 7) (.bin .lss (.v 6) (.c (.int .i64 3))))) .done) K94_20) K94_19
@[simp] def W94_21 := @C.wpe _ _ K94_21.eq_1
def K94_22 : C := .block 0 (.loop 6 [1, 4, 5] K94_21)
@[simp] def W94_22 := @C.wpe _ _ K94_22.eq_1
def K94_23 : C := .seq (.seq (.pl <| .st (.ext 6 0) <|
    .st (.act none (.px (some 3) (.mv (.c (.int .i64 0))))) .done) K94_22) K94_10
@[simp] def W94_23 := @C.wpe _ _ K94_23.eq_1
def K94_24 : Pl := .st (.act none (.px (some 2) (.mv (.v 6)))) .done
@[simp] def W94_24 := @Pl.wpe _ _ K94_24.eq_1
def K94_25 : C := .seq (.pl <| .st (.ext 6 1) <|
    .st (.act none (.ex (some 6) (.bls 3 0 [.int .i64 0, .int .i64 0, .slice none 0 0] []))) K94_24) K94_23
@[simp] def W94_25 := @C.wpe _ _ K94_25.eq_1
def B_spec_l8Labels : C := .seq (.pl <| .st (.ext 6 0) <|
    .st (.act none (.px (some 1) (.mv (.c (.slice none 0 0))))) .done) K94_25
@[simp] def WB_spec_l8Labels := @C.wpe _ _ B_spec_l8Labels.eq_1
def R_spec_l8Labels : FIR := ⟨B_spec_l8Labels, 6, [(1, none)]⟩
theorem IR_spec_l8Labels : cfun Try.prog H_spec_l8Labels Try.f94 = some R_spec_l8Labels := by kernel_rfl
theorem EN_spec_l8Labels {args : List Value} {h : Heap} {k : Value → Heap → Prop} (hargs : args.length = 1) (hw : B_spec_l8Labels.wp Try.prog (retQ [(1, none)] k) (env0 args 6) h) : CallE Try.prog fn_spec_l8Labels args h k := enter Try.func94 rfl IR_spec_l8Labels hargs hw


end Go.Proofs.Ytonjglbachhdcaa

/-
  Facts for the simplifier; loops; structures; marks; words as sets.
-/
namespace Go.Proofs.Ytonjglbachhdcaa
open Go
set_option linter.all false
set_option linter.unusedVariables false
set_option linter.unusedSimpArgs false
set_option linter.defProp false
set_option maxRecDepth 1000000
universe u

section
variable {α : Type} [Ty α] {h : Heap} {v : Value}
/-- the places of a slice's elements, and its length -/
theorem Rep.X {l : List α} (hr : Rep h v l) {n : Nat} (hn : n = Ty.sz α) : (∀ (kd : IntKind) (i : Nat), i < l.length → iaV n v (.int kd i) = some (elp n v i)) ∧ (∀ (kd : IntKind) (i : Int), 0 ≤ i → i < l.length → iaV n v (.int kd i) = some (elp n v i.toNat)) ∧ lenVV v = some (.int .i64 l.length) :=
  ⟨fun _ _ h1 => hr.ian hn h1, fun _ _ h0 h1 => hr.ia' hn h0 h1, hr.len⟩
end
section
variable {h : Heap} {v : Value}
theorem Rep.I {l : List Int} (hr : Rep h v l) : ((∀ (kd : IntKind) (i : Nat), i < l.length → iaV 1 v (.int kd i) = some (elp 1 v i)) ∧ (∀ (kd : IntKind) (i : Int), 0 ≤ i → i < l.length → iaV 1 v (.int kd i) = some (elp 1 v i.toNat)) ∧ lenVV v = some (.int .i64 l.length)) ∧
    ∀ (i : Nat) (hi : i < l.length), hload h (some (elp 1 v i)) none = some (.int .i64 l[i]) := ⟨hr.X rfl, fun _ hi => hr.ldI hi⟩
theorem Rep.B {l : List Bool} (hr : Rep h v l) : ((∀ (kd : IntKind) (i : Nat), i < l.length → iaV 1 v (.int kd i) = some (elp 1 v i)) ∧ (∀ (kd : IntKind) (i : Int), 0 ≤ i → i < l.length → iaV 1 v (.int kd i) = some (elp 1 v i.toNat)) ∧ lenVV v = some (.int .i64 l.length)) ∧
    ∀ (i : Nat) (hi : i < l.length), hload h (some (elp 1 v i)) none = some (.bool l[i]) := ⟨hr.X rfl, fun _ hi => hr.ldB hi⟩
theorem Rep.S {l : List ByteArray} (hr : Rep h v l) : ((∀ (kd : IntKind) (i : Nat), i < l.length → iaV 1 v (.int kd i) = some (elp 1 v i)) ∧ (∀ (kd : IntKind) (i : Int), 0 ≤ i → i < l.length → iaV 1 v (.int kd i) = some (elp 1 v i.toNat)) ∧ lenVV v = some (.int .i64 l.length)) ∧
    ∀ (i : Nat) (hi : i < l.length), hload h (some (elp 1 v i)) none = some (.string l[i]) := ⟨hr.X rfl, fun _ hi => hr.ldS hi⟩
end

theorem IteW.mkr {p A B : Prop} (h2 : ¬ p → B) (h1 : p → A) : IteW p A B := ⟨h1, h2⟩

/-- THE LOOP over a state of plain data: 'Enc s' says how the state lies in the environment and the memory; 'm' goes down -/
theorem wp_while {P : Program} {Q : Ex → Env → Heap → Prop} {e : Env} {h : Heap} {n : Nat} {fg : List Nat} {a : C} {σ : Type} (Enc : σ → Env → Heap → Prop) (m : σ → Nat) (s0 : σ) (h0 : Enc s0 (efgt (e.take n) fg) h)
    (hs : ∀ (J : Env → Heap → Prop) s e h, (∀ s' e h, m s' < m s → Enc s' e h → J e h) → Enc s e h → a.wp P (loopQ n fg J Q) e h) : (C.loop n fg a).wp P Q e h := by
  refine wp_loop (fun k e h => ∃ s, m s = k ∧ Enc s e h) ⟨_, s0, rfl, h0⟩ ?_
  rintro I' k e h hI ⟨s, rfl, hE⟩
  exact hs I' s e h (fun s' e h hlt hE => hI (m s') e h hlt ⟨s', rfl, hE⟩) hE

theorem own1 {α : Type} [Ty α] (ha : Ty.agg α = false) {r : Heap} {cs : List Value} {x : α} : Ty.own r cs x ↔ ∃ v, cs = [v] ∧ Own r v x := by
  constructor
  · intro ho
    have hl := Ty.len (Ty.own_rep ho)
    rw [Ty.one ha] at hl
    match cs, hl with
    | [v], _ => exact ⟨v, rfl, [v], by simp [valC, ha], ho⟩
  · rintro ⟨v, rfl, c, h1, h2⟩
    have hl := Ty.len (Ty.own_rep h2)
    rw [Ty.one ha] at hl
    match c, hl with
    | [u], _ => simp [valC, ha] at h1; subst h1; exact h2
theorem rep1 {α : Type} [Ty α] (ha : Ty.agg α = false) {r : Heap} {cs : List Value} {x : α} : Ty.rep r cs x ↔ ∃ v, cs = [v] ∧ Rep r v x := by
  constructor
  · intro ho
    have hl := Ty.len ho
    rw [Ty.one ha] at hl
    match cs, hl with
    | [v], _ => exact ⟨v, rfl, [v], by simp [valC, ha], ho⟩
  · rintro ⟨v, rfl, c, h1, h2⟩
    have hl := Ty.len h2
    rw [Ty.one ha] at hl
    match c, hl with
    | [u], _ => simp [valC, ha] at h1; subst h1; exact h2

section
variable {α : Type} [Ty α] {h : Heap} {v : Value} {l : List α} {i : Nat}
/-- one cell of an element -/
theorem Rep.fld [Flat α] (hr : Rep h v l) (hi : i < l.length) {n j : Nat} (hn : n = Ty.sz α) {u : Value} (hj : (Flat.enc l[i])[j]? = some u) : hload h (some (elpo n v i j)) none = some u := by
  subst hn
  obtain ⟨p, cap, rfl, hc, hp, hl⟩ := Rep_list.1 hr
  obtain ⟨b, off, vs, rfl, h1, h2⟩ := hl i hi
  rw [← (Flat.rep_iff.1 h2).1] at hj
  have := (hcells_get h1).2 j u hj
  simp [elpo, add_none, hload, this]
end

/-- a value of many cells, as it is put into a box and taken out -/
theorem Rep.A {α : Type} [Ty α] {h : Heap} {v : Value} {x : α} (hr : Rep h v x) (ha : Ty.agg α = true) {n : Nat} (hn : n = Ty.sz α) : pgetV (some v) 0 (some n) = some v ∧ v.cells.size = n ∧ allOne v.cells.toList = true ∧ Value.agg v.cells = v := by
  obtain ⟨cs, rfl, h1⟩ := hr
  have h2 := Ty.len h1
  have h3 := Ty.cell h1
  subst hn
  simp only [valC, ha, if_true]
  refine ⟨?_, by simpa using h2, ?_, rfl⟩
  · simp [h2]
  · rw [← allOne_eq]; simpa using h3

/-- owned, at its cells -/
def owC {α : Type} [Ty α] (cs : List Value) (x : α) : HP := fun r => Ty.own r cs x

section
variable {g h : Heap} {Γ : List HP}
theorem HS.join2 {p p1 p2 : HP} (H : HS g (p1 :: p2 :: Γ) h) (hp : ∀ r1 r2, Dj r1 r2 → p1 r1 → p2 r2 → p (r1.add r2)) : HS g (p :: Γ) h := by
  obtain ⟨g1, r1, rfl, d1, h1, g', r2, rfl, d2, h2, H⟩ := H
  obtain ⟨d3, d4⟩ := add_Dj.1 d1
  refine ⟨g', r1.add r2, ?_, Dj_add.2 ⟨d3, d2⟩, hp r1 r2 d4.symm h1 h2, H⟩
  rw [add_assoc, d4.comm]
theorem HS.unvia {α β : Type} [Ty β] (f : α → β) {v : Value} {x : α} (H : HS g (@ow α (Ty.via f) v x :: Γ) h) : ∃ cs : List Value, v = .agg cs.toArray ∧ HS g (owC cs (f x) :: Γ) h := by
  obtain ⟨g', r, rfl, d, ⟨cs, rfl, ho⟩, H⟩ := H
  exact ⟨cs, rfl, g', r, rfl, d, ho, H⟩
theorem HS.via {α β : Type} [Ty β] (f : α → β) {cs : List Value} {x : α} (H : HS g (owC cs (f x) :: Γ) h) : HS g (@ow α (Ty.via f) (.agg cs.toArray) x :: Γ) h :=
  H.imp fun _ ho => ⟨cs, rfl, ho⟩
theorem HS.unprod {α β : Type} [Ty α] [Ty β] {cs : List Value} {x : α} {y : β} (H : HS g (owC cs (x, y) :: Γ) h) : ∃ c1 c2, cs = c1 ++ c2 ∧ HS g (owC c1 x :: owC c2 y :: Γ) h := by
  obtain ⟨g', r, rfl, d, ⟨c1, c2, r1, r2, rfl, rfl, d2, h1, h2⟩, H⟩ := H
  obtain ⟨d3, d4⟩ := Dj_add.1 d
  exact ⟨c1, c2, rfl, g'.add r2, r1, by rw [add_assoc, d2.comm], add_Dj.2 ⟨d3, d2.symm⟩, h1, g', r2, rfl, d4, h2, H⟩
theorem HS.unone {α : Type} [Ty α] (ha : Ty.agg α = false) {cs : List Value} {x : α} (H : HS g (owC cs x :: Γ) h) : ∃ v, cs = [v] ∧ HS g (ow v x :: Γ) h := by
  obtain ⟨g', r, rfl, d, ho, H⟩ := H
  have ho2 : Ty.own r cs x := ho
  obtain ⟨v, rfl, h3⟩ := (own1 ha).1 ho2
  exact ⟨v, rfl, g', r, rfl, d, h3, H⟩
theorem HS.one {α : Type} [Ty α] (ha : Ty.agg α = false) {v : Value} {x : α} (H : HS g (ow v x :: Γ) h) : HS g (owC [v] x :: Γ) h := H.imp fun _ ho => (own1 ha).2 ⟨v, rfl, ho⟩
theorem HS.prod {α β : Type} [Ty α] [Ty β] (ha : Ty.agg α = false) {v : Value} {cs : List Value} {x : α} {y : β} (H : HS g (ow v x :: owC cs y :: Γ) h) : HS g (owC (v :: cs) (x, y) :: Γ) h :=
  H.join2 fun r1 r2 d h1 h2 => ⟨[v], cs, r1, r2, rfl, rfl, d, (own1 ha).2 ⟨v, rfl, h1⟩, h2⟩
end

/-- HOW MUCH a piece of data holds: the lengths of all its lists, added up -/
class Sz (α : Type) where
  sz : α → Nat
instance : Sz Int := ⟨fun _ => 0⟩
instance : Sz Bool := ⟨fun _ => 0⟩
def szL {α : Type} [Sz α] : List α → Nat
  | [] => 0
  | x :: l => Sz.sz x + szL l
instance instSzList {α : Type} [Sz α] : Sz (List α) := ⟨fun l => l.length + szL l⟩
theorem sz_list {α : Type} [Sz α] (l : List α) : Sz.sz l = l.length + szL l := rfl
theorem szL_get {α : Type} [Sz α] : ∀ {l : List α} {i : Nat} (hi : i < l.length), Sz.sz l[i] ≤ szL l
  | x :: l, 0, _ => by simp [szL]
  | x :: l, i + 1, hi => by
    have := szL_get (l := l) (i := i) (by simpa using hi)
    simp [szL]; omega
/-- 'cnt': how many places are written; 'wr k': the piece of data with the places written over, from k on -/
class Mk (α : Type) where
  cnt : α → Nat
  wr : Int → α → α
  cnt_wr : ∀ k x, cnt (wr k x) = cnt x
  wr_wr : ∀ k j x, wr k (wr j x) = wr k x

def cntL {α : Type} [Mk α] : List α → Nat
  | [] => 0
  | x :: l => Mk.cnt x + cntL l
def mkL {α : Type} [Mk α] : Int → List α → List α
  | _, [] => []
  | k, x :: l => Mk.wr k x :: mkL (k + Mk.cnt x) l

section
variable {α : Type} [Mk α]
theorem cntL_mk : ∀ (k : Int) (l : List α), cntL (mkL k l) = cntL l
  | _, [] => rfl
  | k, x :: l => by simp [cntL, mkL, Mk.cnt_wr, cntL_mk (k + Mk.cnt x) l]
theorem mkL_mk : ∀ (k j : Int) (l : List α), mkL k (mkL j l) = mkL k l
  | _, _, [] => rfl
  | k, j, x :: l => by simp [mkL, Mk.cnt_wr, Mk.wr_wr, mkL_mk (k + Mk.cnt x) (j + Mk.cnt x) l]
@[simp] theorem mkL_length : ∀ (k : Int) (l : List α), (mkL k l).length = l.length
  | _, [] => rfl
  | k, x :: l => by simp [mkL, mkL_length (k + Mk.cnt x) l]
theorem mkL_get : ∀ (k : Int) (l : List α) (i : Nat) (hi : i < l.length), (mkL k l)[i]'(by simpa using hi) = Mk.wr (k + cntL (l.take i)) l[i]
  | _, [], i, hi => by simp at hi
  | k, x :: l, 0, _ => by simp [mkL, cntL]
  | k, x :: l, i + 1, hi => by
    simp only [mkL, List.getElem_cons_succ, List.take_succ_cons, cntL]
    rw [mkL_get (k + Mk.cnt x) l i (by simpa using hi)]
    congr 1
    push_cast
    omega
instance instMkList : Mk (List α) := ⟨cntL, mkL, cntL_mk, mkL_mk⟩
end

instance instMkInt : Mk Int := ⟨fun _ => 1, fun k _ => k, fun _ _ => rfl, fun _ _ _ => rfl⟩
instance instMkBool : Mk Bool := ⟨fun _ => 1, fun k _ => decide (k.tmod 3 = 0), fun _ _ => rfl, fun _ _ _ => rfl⟩
/-- how far the writing has come -/
structure Mkd {α : Type} [Mk α] (k : Int) (x y : List α) (i : Nat) : Prop where
  len : y.length = x.length
  done : y.take i = (mkL k x).take i
  rest : y.drop i = x.drop i

section
variable {α : Type} [Mk α] {k : Int} {x y : List α} {i : Nat}
theorem Mkd.zero : Mkd k x x 0 := ⟨rfl, rfl, rfl⟩
theorem Mkd.get (h : Mkd k x y i) (hi : i < x.length) : y[i]'(by rw [h.len]; exact hi) = x[i] := by
  have := congrArg (fun l => l[0]?) h.rest
  simp [List.getElem?_drop, hi, h.len] at this
  exact this
theorem Mkd.step (h : Mkd k x y i) (hi : i < x.length) : Mkd k x (y.set i (Mk.wr (k + cntL (x.take i)) x[i])) (i + 1) := by
  refine ⟨by simp [h.len], ?_, ?_⟩
  · have := take_set_succ (x := mkL k x) h.done (by simpa using hi) (by simpa using h.len)
    rwa [mkL_get k x i hi] at this
  · rw [List.drop_set_of_lt (by omega)]
    have := congrArg (List.drop 1) h.rest
    simpa [List.drop_drop] using this
theorem Mkd.all (h : Mkd k x y i) (hi : x.length ≤ i) : y = mkL k x := eq_of_take h.done (by simpa using hi) (by simpa using h.len)
end
theorem take_step {α : Type} {x y : List α} {i : Nat} (h : x.take i = y.take i) (h1 : i < x.length) (h2 : i < y.length) (he : x[i] = y[i]) : x.take (i + 1) = y.take (i + 1) := by
  rw [List.take_add_one, List.take_add_one, h, List.getElem?_eq_getElem h1, List.getElem?_eq_getElem h2, he]
/-- an amount to shift by is not negative -/
@[simp] theorem ite_lt_zero {α : Type} {b : Int} {x y : α} (h : 0 ≤ b) : (if b < 0 then x else y) = y := if_neg (by omega)

/- bits -/
def setB (a : BitVec 64) (j : Nat) : BitVec 64 := a ||| (1#64 <<< j)
def clrB (a : BitVec 64) (j : Nat) : BitVec 64 := a &&& ~~~(1#64 <<< j)
/-- eight words -/
structure W8 where
  l : List (BitVec 64)
  len : l.length = 8
def W8.zero : W8 := ⟨List.replicate 8 0, rfl⟩
def W8.put (w : W8) (j : Nat) (x : BitVec 64) : W8 := ⟨w.l.set j x, by simp [w.len]⟩
def W8.at (w : W8) (j : Nat) : BitVec 64 := w.l.getD j 0
def W8.enc (w : W8) : List Value := w.l.map fun b => .int .u64 b.toNat
instance instTyW8 : Ty W8 where
  agg := true
  sz := 8
  rep := fun _ cs x => cs = x.enc
  own := fun r cs x => r = Heap.nil ∧ cs = x.enc
  one := fun h => by simp at h
  len := by rintro h cs x rfl; simp [W8.enc, x.len]
  cell := by
    rintro h cs x rfl v hv
    simp only [W8.enc, List.mem_map] at hv
    obtain ⟨b, _, rfl⟩ := hv
    rfl
  mono := fun _ hr => hr
  own_rep := fun ho => ho.2
instance instFlatW8 : Flat W8 := ⟨W8.enc, fun _ => True, by simp [Ty.rep], by simp [Ty.own]⟩
theorem W8.enc_at (w : W8) {j : Nat} (hj : j < 8) : w.enc[j]? = some (.int .u64 (w.at j).toNat) := by
  have : j < w.l.length := by rw [w.len]; exact hj
  simp [W8.enc, W8.at, this]
section
variable {α : Type} [Ty α] {h : Heap} {v : Value} {l : List α} {i : Nat}
theorem Rep.iaA (hr : Rep h v l) (hi : i < l.length) {n m : Nat} {kd : IntKind} {j : Nat} (hj : j < m) : iaAV m 1 (elp n v i) (.int kd j) = some (elpo n v i j) := by
  obtain ⟨p, cap, rfl, hc, hp, hl⟩ := Rep_list.1 hr
  obtain ⟨b, off, vs, rfl, _⟩ := hl i hi
  have : (j : Int) < m := by omega
  simp [iaAV, elp, elpo, this]
/-- rows of words -/
theorem Rep.W {l : List W8} (hr : Rep h v l) : ((∀ (kd : IntKind) (i : Nat), i < l.length → iaV 8 v (.int kd i) = some (elp 8 v i)) ∧ (∀ (kd : IntKind) (i : Int), 0 ≤ i → i < l.length → iaV 8 v (.int kd i) = some (elp 8 v i.toNat)) ∧ lenVV v = some (.int .i64 l.length)) ∧
    (∀ (kd : IntKind) (i j : Nat), i < l.length → j < 8 → iaAV 8 1 (elp 8 v i) (.int kd j) = some (elpo 8 v i j)) ∧
    ∀ (i j : Nat) (hi : i < l.length), j < 8 → hload h (some (elpo 8 v i j)) none = some (.int .u64 (l[i].at j).toNat) :=
  ⟨hr.X rfl, fun _ _ _ hi hj => hr.iaA hi hj, fun _ _ hi hj => hr.fld hi rfl (W8.enc_at _ hj)⟩
end

theorem Rep.isNil {α : Type} [Ty α] {h : Heap} {v : Value} {l : List α} (hr : Rep h v l) : ∃ b, isNilV false v = some (.bool b) ∧ (b = true → l = []) := by
  obtain ⟨p, cap, rfl, h1, h2, h3⟩ := Rep_list.1 hr
  refine ⟨p.isNone, rfl, fun hp => ?_⟩
  cases l with
  | nil => rfl
  | cons x l => obtain ⟨b, off, vs, h4, _⟩ := h3 0 (by simp); subst h4; simp at hp

theorem Own.clip {α : Type} [Ty α] {r : Heap} {v : Value} {l : List α} (O : Own r v l) {esz : Nat} {k : IntKind} :
    ∃ v', sliceVV esz v none (some (some (.int k l.length))) (some (some (.int k l.length))) = some v' ∧ Own r v' l := by
  rcases Own_list.1 O with ⟨p, rfl, rfl, rfl, hp⟩ | ⟨b, off, cap, cells, el, r', rfl, ⟨h1, hM⟩, h2, rfl, h4, h5⟩
  · refine ⟨.slice p 0 0, ?_, Own_list.2 (.inl ⟨p, rfl, rfl, rfl, hp⟩)⟩
    simp [sliceVV, bndV]
  · refine ⟨.slice (some ⟨b, off, none⟩) l.length l.length, ?_, Own_list.2 (.inr ⟨b, off, l.length, cells, el, r', rfl, ⟨Nat.le_refl _, hM⟩, ?_, rfl, h4, h5⟩)⟩
    · simp [sliceVV, bndV, add_none, h1]
    · have : l.length * Ty.sz α ≤ cap * Ty.sz α := Nat.mul_le_mul_right _ h1
      omega
theorem HS.clip {α : Type} [Ty α] {g h : Heap} {Γ : List HP} {v : Value} {l : List α} (H : HS g (ow v l :: Γ) h) {esz : Nat} {k : IntKind} :
    ∃ v', sliceVV esz v none (some (some (.int k l.length))) (some (some (.int k l.length))) = some v' ∧ HS g (ow v' l :: Γ) h := by
  obtain ⟨g', r, rfl, d, O, H⟩ := H
  obtain ⟨v', h1, O'⟩ := O.clip (esz := esz) (k := k)
  exact ⟨v', h1, g', r, rfl, d, O', H⟩
/-- a slice that is written out, without elements -/
theorem HS.bls0 {P : Program} {k : Env → Heap → Prop} {e : Env} {g h : Heap} {Γ : List HP} (H : HS g Γ h) (α : Type) [Ty α] {esz : Nat} {zero : List Value} {dst : Nat}
    (K : ∀ v' h', HS g (ow v' ([] : List α) :: Γ) h' → k (eset e dst (some v')) h') : (A.ex (some dst) (.bls esz 0 zero [])).wp P k e h := by
  refine ⟨[], rfl, fun b el hb => Fgt.keep ?_⟩
  rw [set_new hb]
  exact K _ _ ⟨h, _, rfl, Dj_one.2 hb, Own_list.2 (.inr ⟨b, 0, 0, [], el, Heap.nil, rfl, ⟨Nat.le_refl _, by simp⟩, by simp, by simp, rfl, rfl⟩), H⟩
@[simp] theorem faV_ptr {b o off : Nat} : faV off (.pointer (some ⟨b, o, none⟩)) = some (.pointer (some ⟨b, o + off, none⟩)) := by simp [faV, add_none]
attribute [simp] Option.bind_some

end Go.Proofs.Ytonjglbachhdcaa

/-
  Maps as pieces of the memory; pieces that are only read become part of what is read.
-/
namespace Go.Proofs.Ytonjglbachhdcaa
open Go
set_option linter.all false
set_option linter.unusedVariables false
set_option linter.unusedSimpArgs false
set_option linter.defProp false
set_option maxRecDepth 1000000

section
variable {g h : Heap} {Γ : List HP}
/-- the later pieces become part of what is only read -/
theorem HS.rebase : ∀ {Δ Γ : List HP} {h : Heap}, HS g (Δ ++ Γ) h → ∃ g1, HS g Γ g1 ∧ HS g1 Δ h
  | [], _, h, H => ⟨h, H, HS.init⟩
  | _ :: _, _, _, ⟨g', r, e, d, hp, H⟩ => by
    obtain ⟨g1, h1, h2⟩ := H.rebase
    exact ⟨g1, h1, g', r, e, d, hp, h2⟩
end

/- MAPS -/
/-- a map of its own: its entries as pairs, in the order in which they came -/
def mpo {κ ν : Type} (kf : κ → Value) (vf : ν → Value) (b : Nat) (l : List (κ × ν)) : HP := fun r => ∃ es clock, r = Heap.one b (.map es clock) ∧ es.toList.map (fun e => (e.key, e.val)) = l.map fun p => (kf p.1, vf p.2)
/-- what a key leads to -/
def mlk {κ ν : Type} [DecidableEq κ] (l : List (κ × ν)) (a : κ) : Option ν := (l.find? fun p => decide (p.1 = a)).map (·.2)
theorem mfind_spec {κ ν : Type} [DecidableEq κ] {kf : κ → Value} {vf : ν → Value} {kt : KT} (hkt : ∀ a b, keyEq kt (kf a) (kf b) = some (decide (a = b))) {a : κ} : ∀ {es : List MapEntry} {l : List (κ × ν)} {i0 : Nat}, es.map (fun e => (e.key, e.val)) = l.map (fun p => (kf p.1, vf p.2)) →
    ∃ i, mfind kt (kf a) es i0 = some ((mlk l a).map fun y => (i, vf y))
  | [], [], _, _ => ⟨0, rfl⟩
  | [], _ :: _, _, h => by simp at h
  | _ :: _, [], _, h => by simp at h
  | x :: es, p :: l, i0, h => by
    simp only [List.map_cons, List.cons.injEq, Prod.mk.injEq] at h
    obtain ⟨⟨h1, h2⟩, h3⟩ := h
    obtain ⟨i, hi⟩ := mfind_spec hkt (a := a) (i0 := i0 + 1) h3
    unfold mfind
    rw [h1, hkt, h2]
    by_cases he : a = p.1
    · subst he
      refine ⟨i0, ?_⟩
      simp [mlk]
    · refine ⟨i, ?_⟩
      simp only [he, decide_false]
      rw [hi]
      simp [mlk, List.find?_cons, Ne.symm he, show ¬ p.1 = a from fun e => he e.symm]
section
variable {P : Program} {k : Env → Heap → Prop} {e : Env} {g h : Heap} {Γ : List HP} {κ ν : Type} [DecidableEq κ] {kf : κ → Value} {vf : ν → Value} {b : Nat} {l : List (κ × ν)} {kt : KT}
theorem HS.mkm (H : HS g Γ h) (kf : κ → Value) (vf : ν → Value) {dst : Nat} (K : ∀ b h', HS g (mpo kf vf b [] :: Γ) h' → k (eset e dst (some (.map (some b)))) h') : (A.ex (some dst) .mkm).wp P k e h := by
  intro b hb
  refine Fgt.keep ?_
  rw [set_new hb]
  exact K _ _ ⟨h, _, rfl, Dj_one.2 hb, ⟨_, _, rfl, rfl⟩, H⟩
theorem HS.mget (H : HS g (mpo kf vf b l :: Γ) h) {zero : Value} {ok : Bool} {m x : O} {a : κ} {dst : Nat} (hm : m.get e = some (.map (some b))) (hx : x.get e = some (kf a)) (hkt : ∀ a b, keyEq kt (kf a) (kf b) = some (decide (a = b)))
    (K : k (eset e dst (some (if ok then .tuple #[((mlk l a).map vf).getD zero, .bool (mlk l a).isSome] else ((mlk l a).map vf).getD zero))) h) : (A.ex (some dst) (.mget kt zero ok m x)).wp P k e h := by
  obtain ⟨g', r, rfl, d, ⟨es, clock, rfl, hes⟩, H⟩ := H
  obtain ⟨i, hi⟩ := mfind_spec hkt (a := a) (i0 := 0) hes
  refine ⟨b, es, clock, kf a, _, hm, le_add' d _ _ (by simp [Heap.one]), hx, by rw [hkt]; rfl, hi, Fgt.keep ?_⟩
  cases hl : mlk l a with
  | none => rw [hl] at K; cases ok <;> exact K
  | some y => rw [hl] at K; cases ok <;> exact K
theorem HS.mput (H : HS g (mpo kf vf b l :: Γ) h) {m x y : O} {a : κ} {v : ν} (hm : m.get e = some (.map (some b))) (hx : x.get e = some (kf a)) (hy : y.get e = some (vf v)) (hkt : ∀ a b, keyEq kt (kf a) (kf b) = some (decide (a = b))) (hn : mlk l a = none)
    (K : ∀ h', HS g (mpo kf vf b (l ++ [(a, v)]) :: Γ) h' → k e h') : (A.ex none (.mput kt m x y)).wp P k e h := by
  obtain ⟨g', r, rfl, d, ⟨es, clock, rfl, hes⟩, H⟩ := H
  obtain ⟨i, hi⟩ := mfind_spec hkt (a := a) (i0 := 0) hes
  rw [hn] at hi
  refine ⟨b, es, clock, kf a, vf v, none, hm, le_add' d _ _ (by simp [Heap.one]), hx, hy, by rw [hkt]; rfl, hi, Fgt.keep ?_⟩
  refine K _ ⟨g', Heap.one b (.map (es.push { key := kf a, val := vf v, born := clock }) (clock + 1)), ?_, ?_, ⟨_, _, rfl, ?_⟩, H⟩
  · have hb := Dj_one.1 d
    rw [← set_new hb]
    rw [← set_new hb]
    funext z
    simp only [Heap.set]
    split <;> rfl
  · exact Dj_one.2 (Dj_one.1 d)
  · simp [hes]
theorem HS.mlen (H : HS g (mpo kf vf b l :: Γ) h) {m : O} {dst : Nat} (hm : m.get e = some (.map (some b))) (K : k (eset e dst (some (.int .i64 l.length))) h) : (A.ex (some dst) (.mlen m)).wp P k e h := by
  obtain ⟨g', r, rfl, d, ⟨es, clock, rfl, hes⟩, H⟩ := H
  have hl : es.size = l.length := by
    have := congrArg List.length hes
    simpa using this
  refine ⟨b, es, clock, hm, le_add' d _ _ (by simp [Heap.one]), Fgt.keep ?_⟩
  rw [hl]
  exact K
end
end Go.Proofs.Ytonjglbachhdcaa

/-
  Expressions: trees of numbers; edges, processes, systems: how they lie in cells.
-/
namespace Go.Proofs.Ytonjglbachhdcaa
open Go
set_option linter.all false
set_option linter.unusedVariables false
set_option linter.unusedSimpArgs false
set_option linter.defProp false
set_option maxRecDepth 1000000

section
variable {α : Type}
theorem repL_map {t t' : Ty α} {h : Heap} {p : Option Addr} {l : List α} (hs : t.sz = t'.sz) (hr : ∀ cs x, x ∈ l → t.rep h cs x → t'.rep h cs x) (H : @repL α t h p l) : @repL α t' h p l := by
  intro i hi
  obtain ⟨b, off, vs, h1, h2, h3⟩ := H i hi
  refine ⟨b, off, vs, h1, ?_, hr _ _ (List.getElem_mem hi) h3⟩
  have h2 : hcells h b (off + i * t.sz) t.sz = some vs := h2
  show hcells h b (off + i * t'.sz) t'.sz = some vs
  rw [← hs]; exact h2
theorem repS_map {t t' : Ty α} {h : Heap} {cs : List Value} {l : List α} (hs : t.sz = t'.sz) (hr : ∀ cs x, x ∈ l → t.rep h cs x → t'.rep h cs x) (H : @repS α t h cs l) : @repS α t' h cs l := by
  obtain ⟨p, cap, h1, h2, h3, h4⟩ := H
  exact ⟨p, cap, h1, h2, h3, repL_map hs hr h4⟩
theorem ownL_map {t t' : Ty α} (hs : t.sz = t'.sz) : ∀ {l : List α} {cs : List Value} {r : Heap}, (∀ r cs x, x ∈ l → t.own r cs x → t'.own r cs x) → @ownL α t l cs r → @ownL α t' l cs r
  | [], _, _, _, H => H
  | x :: l, cs, r, ho, ⟨r1, r2, h1, h2, h3, h4⟩ => by
    refine ⟨r1, r2, h1, h2, ?_, ?_⟩
    · have := ho r1 _ x (by simp) h3
      show t'.own r1 (cs.take t'.sz) x
      rw [← hs]; exact this
    · have := ownL_map hs (fun r cs x hx => ho r cs x (by simp [hx])) h4
      show @ownL α t' l (cs.drop t'.sz) r2
      rw [← hs]; exact this
theorem ownS_map {t t' : Ty α} (hs : t.sz = t'.sz) {l : List α} {cs : List Value} {r : Heap} (ho : ∀ r cs x, x ∈ l → t.own r cs x → t'.own r cs x) (H : @ownS α t r cs l) : @ownS α t' r cs l := by
  rcases H with h1 | ⟨b, off, cap, cells, el, r', h1, h2, h3, h4, h5, h6⟩
  · exact .inl h1
  · refine .inr ⟨b, off, cap, cells, el, r', h1, h2, ?_, h4, h5, ownL_map hs ho h6⟩
    have h3 : off + cap * t.sz ≤ cells.length := h3
    show off + cap * t'.sz ≤ cells.length
    rw [← hs]; exact h3
end

theorem exists_max {P : Nat → Nat → Prop} (hu : ∀ i n, P i n → P i (n + 1)) : ∀ m, (∀ i, i < m → ∃ n, P i n) → ∃ N, ∀ i, i < m → P i N
  | 0, _ => ⟨0, fun i hi => absurd hi (Nat.not_lt_zero i)⟩
  | m + 1, h => by
    have up : ∀ i n k, P i n → P i (n + k) := by
      intro i n k hp
      induction k with
      | zero => exact hp
      | succ k ih => exact hu _ _ ih
    obtain ⟨N, hN⟩ := exists_max hu m fun i hi => h i (by omega)
    obtain ⟨M, hM⟩ := h m (by omega)
    refine ⟨N + M, fun i hi => ?_⟩
    by_cases e : i = m
    · subst e; rw [Nat.add_comm]; exact up _ _ _ hM
    · exact up _ _ _ (hN i (by omega))

/-- an expression -/
inductive Exq where
  | mk (kind val : Int) (kids : List Exq)
namespace Exq
def kind : Exq → Int | .mk k _ _ => k
def val : Exq → Int | .mk _ v _ => v
def kids : Exq → List Exq | .mk _ _ l => l
@[simp] theorem kind_mk {k v : Int} {l : List Exq} : (Exq.mk k v l).kind = k := rfl
@[simp] theorem val_mk {k v : Int} {l : List Exq} : (Exq.mk k v l).val = v := rfl
@[simp] theorem kids_mk {k v : Int} {l : List Exq} : (Exq.mk k v l).kids = l := rfl
theorem ext_iff' {a b : Exq} : a = b ↔ a.kind = b.kind ∧ a.val = b.val ∧ a.kids = b.kids := by
  cases a; cases b; simp
theorem ind {p : Exq → Prop} (h : ∀ x : Exq, (∀ y ∈ x.kids, p y) → p x) : ∀ x, p x
  | .mk k v l => h _ fun y hy => ind h y
termination_by x => SizeOf.sizeOf x
decreasing_by
  have h1 : y ∈ l := hy
  have := List.sizeOf_lt_of_mem h1
  simp only [Exq.mk.sizeOf_spec]
  omega
def tup (x : Exq) : Int × Int × List Exq := (x.kind, x.val, x.kids)

@[reducible] def T0 : Ty Exq where
  agg := true
  sz := 3
  rep := fun _ _ _ => False
  own := fun _ _ _ => False
  one := fun h => by simp at h
  len := fun h => h.elim
  cell := fun h => h.elim
  mono := fun _ h => h
  own_rep := fun h => h.elim
/-- the product of the fields, where the kids lie as t says -/
@[reducible] def tyTup (t : Ty Exq) : Ty (Int × Int × List Exq) := @instTyProd Int (Int × List Exq) instTyInt (@instTyProd Int (List Exq) instTyInt (@instTyList Exq t))
@[reducible] def T : Nat → Ty Exq
  | 0 => T0
  | n + 1 => @Ty.via Exq (Int × Int × List Exq) (tyTup (T n)) tup
theorem T_sz : ∀ n, (T n).sz = 3
  | 0 => rfl
  | _ + 1 => rfl

theorem tup_rep {t t' : Ty Exq} (hs : t.sz = t'.sz) {h : Heap} {cs : List Value} {x : Exq} (hr : ∀ cs y, y ∈ x.kids → t.rep h cs y → t'.rep h cs y) (H : (tyTup t).rep h cs x.tup) : (tyTup t').rep h cs x.tup := by
  obtain ⟨c1, c2, e1, h1, c3, c4, e2, h2, h3⟩ := H
  exact ⟨c1, c2, e1, h1, c3, c4, e2, h2, repS_map hs hr h3⟩
theorem tup_own {t t' : Ty Exq} (hs : t.sz = t'.sz) {r : Heap} {cs : List Value} {x : Exq} (hr : ∀ r cs y, y ∈ x.kids → t.own r cs y → t'.own r cs y) (H : (tyTup t).own r cs x.tup) : (tyTup t').own r cs x.tup := by
  obtain ⟨c1, c2, r1, r2, e1, e2, d1, h1, c3, c4, r3, r4, e3, e4, d2, h2, h3⟩ := H
  exact ⟨c1, c2, r1, r2, e1, e2, d1, h1, c3, c4, r3, r4, e3, e4, d2, h2, ownS_map hs hr h3⟩
theorem rep_up : ∀ (n : Nat) {h : Heap} {cs : List Value} {x : Exq}, (T n).rep h cs x → (T (n + 1)).rep h cs x
  | 0, _, _, _, H => H.elim
  | n + 1, h, cs, x, H => tup_rep (t := T n) (t' := T (n + 1)) (by rw [T_sz, T_sz]) (fun _ _ _ => rep_up n) H
theorem own_up : ∀ (n : Nat) {r : Heap} {cs : List Value} {x : Exq}, (T n).own r cs x → (T (n + 1)).own r cs x
  | 0, _, _, _, H => H.elim
  | n + 1, h, cs, x, H => tup_own (t := T n) (t' := T (n + 1)) (by rw [T_sz, T_sz]) (fun _ _ _ _ => own_up n) H
theorem own_le {n m : Nat} (hle : n ≤ m) {r : Heap} {cs : List Value} {x : Exq} (H : (T n).own r cs x) : (T m).own r cs x := by
  obtain ⟨k, rfl⟩ := Nat.exists_eq_add_of_le hle
  induction k with
  | zero => exact H
  | succ k ih => exact own_up _ (ih (by omega))
end Exq

instance instTyExq : Ty Exq where
  agg := true
  sz := 3
  rep := fun h cs x => ∃ n, (Exq.T n).rep h cs x
  own := fun r cs x => ∃ n, (Exq.T n).own r cs x
  one := fun h => by simp at h
  len := fun ⟨n, h⟩ => ((Exq.T n).len h).trans (Exq.T_sz n)
  cell := fun ⟨n, h⟩ => (Exq.T n).cell h
  mono := fun hl ⟨n, h⟩ => ⟨n, (Exq.T n).mono hl h⟩
  own_rep := fun ⟨n, h⟩ => ⟨n, (Exq.T n).own_rep h⟩

namespace Exq
theorem rep_iff {h : Heap} {cs : List Value} {x : Exq} : Ty.rep h cs x ↔ Ty.rep h cs x.tup := by
  constructor
  · rintro ⟨n, H⟩
    cases n with
    | zero => exact H.elim
    | succ n => exact tup_rep (t := T n) (t' := instTyExq) (T_sz n) (fun _ _ _ h => ⟨n, h⟩) H
  · rintro ⟨c1, c2, e1, h1, c3, c4, e2, h2, p, cap, e3, h3, h4, hl⟩
    have hl : ∀ i, i < x.kids.length → ∃ n, ∃ (hi : i < x.kids.length), ∃ b off vs, p = some ⟨b, off, none⟩ ∧ hcells h b (off + i * 3) 3 = some vs ∧ (T n).rep h vs x.kids[i] := by
      intro i hi
      obtain ⟨b, off, vs, g1, g2, n, g3⟩ := hl i hi
      exact ⟨n, hi, b, off, vs, g1, g2, g3⟩
    obtain ⟨N, hN⟩ := exists_max (P := fun i n => ∃ (hi : i < x.kids.length), ∃ b off vs, p = some ⟨b, off, none⟩ ∧ hcells h b (off + i * 3) 3 = some vs ∧ (T n).rep h vs x.kids[i]) (fun i n ⟨hi, b, off, vs, g1, g2, g3⟩ => ⟨hi, b, off, vs, g1, g2, rep_up n g3⟩) _ hl
    refine ⟨N + 1, c1, c2, e1, h1, c3, c4, e2, h2, p, cap, e3, h3, h4, fun i hi => ?_⟩
    obtain ⟨_, b, off, vs, g1, g2, g3⟩ := hN i hi
    refine ⟨b, off, vs, g1, ?_, g3⟩
    show hcells h b (off + i * (T N).sz) (T N).sz = some vs
    rw [T_sz]; exact g2
theorem ownL_max : ∀ {l : List Exq} {cs : List Value} {r : Heap}, ownL l cs r → ∃ N, @ownL Exq (T N) l cs r
  | [], _, _, H => ⟨0, H⟩
  | x :: l, cs, r, ⟨r1, r2, h1, h2, ⟨n, h3⟩, h4⟩ => by
    obtain ⟨N, h5⟩ := ownL_max h4
    refine ⟨n + N, r1, r2, h1, h2, ?_, ?_⟩
    · show (T (n + N)).own r1 (cs.take (T (n + N)).sz) x
      rw [T_sz]; exact own_le (by omega) h3
    · show @ownL Exq (T (n + N)) l (cs.drop (T (n + N)).sz) r2
      rw [T_sz]; exact ownL_map (t := T N) (t' := T (n + N)) (by rw [T_sz, T_sz]) (fun _ _ _ _ => own_le (by omega)) h5
theorem own_iff {r : Heap} {cs : List Value} {x : Exq} : Ty.own r cs x ↔ Ty.own r cs x.tup := by
  constructor
  · rintro ⟨n, H⟩
    cases n with
    | zero => exact H.elim
    | succ n => exact tup_own (t := T n) (t' := instTyExq) (T_sz n) (fun _ _ _ _ h => ⟨n, h⟩) H
  · rintro ⟨c1, c2, r1, r2, e1, e2, d1, h1, c3, c4, r3, r4, e3, e4, d2, h2, h3⟩
    rcases h3 with h3 | ⟨b, off, cap, cells, el, r', g1, g2, g3, g4, g5, g6⟩
    · exact ⟨1, c1, c2, r1, r2, e1, e2, d1, h1, c3, c4, r3, r4, e3, e4, d2, h2, .inl h3⟩
    · obtain ⟨N, h7⟩ := ownL_max g6
      refine ⟨N + 1, c1, c2, r1, r2, e1, e2, d1, h1, c3, c4, r3, r4, e3, e4, d2, h2, .inr ⟨b, off, cap, cells, el, r', g1, g2, ?_, g4, g5, h7⟩⟩
      show off + cap * (T N).sz ≤ cells.length
      rw [T_sz]; exact g3
end Exq

/-- a number of the machine -/
def I64 (n : Int) : Prop := -9223372036854775808 ≤ n ∧ n < 9223372036854775808
theorem I64.lo {n : Int} (h : I64 n) : -9223372036854775808 ≤ n := h.1
theorem I64.hi {n : Int} (h : I64 n) : n < 9223372036854775808 := h.2

section
variable {g h r : Heap} {Γ : List HP} {v : Value} {cs : List Value}
theorem repExq {x : Exq} : Ty.rep h cs x ↔ ∃ w, cs = [.int .i64 x.kind, .int .i64 x.val, w] ∧ I64 x.kind ∧ I64 x.val ∧ Rep h w x.kids := by
  rw [Exq.rep_iff]
  constructor
  · rintro ⟨c1, c2, rfl, ⟨rfl, h1⟩, c3, c4, rfl, ⟨rfl, h2⟩, h3⟩
    obtain ⟨w, rfl, h4⟩ := (rep1 (α := List Exq) rfl).1 h3
    exact ⟨w, rfl, h1, h2, h4⟩
  · rintro ⟨w, rfl, h1, h2, h3⟩
    exact ⟨[_], [_, _], rfl, ⟨rfl, h1⟩, [_], [_], rfl, ⟨rfl, h2⟩, (rep1 (α := List Exq) rfl).2 ⟨w, rfl, h3⟩⟩
theorem ownExq {x : Exq} : Ty.own r cs x ↔ ∃ w, cs = [.int .i64 x.kind, .int .i64 x.val, w] ∧ I64 x.kind ∧ I64 x.val ∧ Own r w x.kids := by
  rw [Exq.own_iff]
  constructor
  · rintro ⟨c1, c2, r1, r2, rfl, rfl, d1, ⟨rfl, rfl, h1⟩, c3, c4, r3, r4, rfl, rfl, d2, ⟨rfl, rfl, h2⟩, h3⟩
    obtain ⟨w, rfl, h4⟩ := (own1 (α := List Exq) rfl).1 h3
    exact ⟨w, rfl, h1, h2, by rw [nil_add, nil_add]; exact h4⟩
  · rintro ⟨w, rfl, h1, h2, h3⟩
    exact ⟨[_], [_, _], Heap.nil, r, rfl, by simp, by simp, ⟨rfl, rfl, h1⟩, [_], [_], Heap.nil, r, rfl, by simp, by simp, ⟨rfl, rfl, h2⟩, (own1 (α := List Exq) rfl).2 ⟨w, rfl, h3⟩⟩
theorem Rep_Exq {x : Exq} : Rep h v x ↔ ∃ w, v = .agg #[.int .i64 x.kind, .int .i64 x.val, w] ∧ I64 x.kind ∧ I64 x.val ∧ Rep h w x.kids := by
  constructor
  · rintro ⟨cs, rfl, H⟩
    obtain ⟨w, rfl, h1⟩ := repExq.1 H
    exact ⟨w, rfl, h1⟩
  · rintro ⟨w, rfl, h1⟩
    exact ⟨_, rfl, repExq.2 ⟨w, rfl, h1⟩⟩
theorem HS.unExq {x : Exq} (H : HS g (ow v x :: Γ) h) : ∃ w, v = .agg #[.int .i64 x.kind, .int .i64 x.val, w] ∧ I64 x.kind ∧ I64 x.val ∧ HS g (ow w x.kids :: Γ) h := by
  obtain ⟨g', r, rfl, d, ⟨cs, rfl, O⟩, H⟩ := H
  obtain ⟨w, rfl, h1, h2, h3⟩ := ownExq.1 O
  exact ⟨w, rfl, h1, h2, g', r, rfl, d, h3, H⟩
theorem HS.mkExq {x : Exq} {w : Value} (H : HS g (ow w x.kids :: Γ) h) (h1 : I64 x.kind) (h2 : I64 x.val) : HS g (ow (.agg #[.int .i64 x.kind, .int .i64 x.val, w]) x :: Γ) h :=
  H.imp fun _ O => ⟨_, rfl, ownExq.2 ⟨w, rfl, h1, h2, O⟩⟩
theorem HS.mkExq' {kd vl : Int} {l : List Exq} {w : Value} (H : HS g (ow w l :: Γ) h) (h1 : I64 kd) (h2 : I64 vl) : HS g (ow (.agg #[.int .i64 kd, .int .i64 vl, w]) (Exq.mk kd vl l) :: Γ) h :=
  HS.mkExq (x := Exq.mk kd vl l) H h1 h2
theorem Rep.aExq {x : Exq} (hr : Rep h v x) : pgetV (some v) 0 (some 3) = some v ∧ v.cells.size = 3 ∧ allOne v.cells.toList = true ∧ Value.agg v.cells = v := hr.A rfl rfl
end

noncomputable instance : DecidableEq Exq := fun _ _ => Classical.propDecidable _

/-- an edge -/
structure Ed where
  frm : Int
  to : Int
  guard : Exq
  var : Int
  value : Exq
  sync : Int
instance instTyEd : Ty Ed := Ty.via fun (e : Ed) => (e.frm, e.to, e.guard, e.var, e.value, e.sync)
noncomputable instance : DecidableEq Ed := fun _ _ => Classical.propDecidable _
/-- a process -/
structure Pr where
  locs : Int
  edges : List Ed
instance instTyPr : Ty Pr := Ty.via fun (p : Pr) => (p.locs, p.edges)
noncomputable instance : DecidableEq Pr := fun _ _ => Classical.propDecidable _
/-- a system -/
structure Sy where
  init : List Int
  procs : List Pr
instance instTySy : Ty Sy := Ty.via fun (s : Sy) => (s.init, s.procs)
noncomputable instance : DecidableEq Sy := fun _ _ => Classical.propDecidable _
theorem Ed.ext_iff' {a b : Ed} : a = b ↔ a.frm = b.frm ∧ a.to = b.to ∧ a.guard = b.guard ∧ a.var = b.var ∧ a.value = b.value ∧ a.sync = b.sync := by
  cases a; cases b; simp
theorem Pr.ext_iff' {a b : Pr} : a = b ↔ a.locs = b.locs ∧ a.edges = b.edges := by
  cases a; cases b; simp
theorem Sy.ext_iff' {a b : Sy} : a = b ↔ a.init = b.init ∧ a.procs = b.procs := by
  cases a; cases b; simp

/-- an edge's cells, where its two expressions' operands are known -/
def Ed.cs (e : Ed) (w1 w2 : Value) : List Value := [.int .i64 e.frm, .int .i64 e.to, .int .i64 e.guard.kind, .int .i64 e.guard.val, w1, .int .i64 e.var, .int .i64 e.value.kind, .int .i64 e.value.val, w2, .int .i64 e.sync]
structure Ed.ok (e : Ed) : Prop where
  frm : I64 e.frm
  to : I64 e.to
  gk : I64 e.guard.kind
  gv : I64 e.guard.val
  var : I64 e.var
  vk : I64 e.value.kind
  vv : I64 e.value.val
  sync : I64 e.sync

section
variable {g h r : Heap} {Γ : List HP} {v : Value} {cs : List Value}
theorem repEd {e : Ed} : Ty.rep h cs e ↔ ∃ w1 w2, cs = e.cs w1 w2 ∧ e.ok ∧ Rep h w1 e.guard.kids ∧ Rep h w2 e.value.kids := by
  constructor
  · rintro ⟨c1, c2, rfl, ⟨rfl, h1⟩, c3, c4, rfl, ⟨rfl, h2⟩, c5, c6, rfl, h3, c7, c8, rfl, ⟨rfl, h4⟩, c9, c0, rfl, h5, rfl, h6⟩
    obtain ⟨w1, rfl, g1, g2, g3⟩ := repExq.1 h3
    obtain ⟨w2, rfl, g4, g5, g6⟩ := repExq.1 h5
    exact ⟨w1, w2, rfl, ⟨h1, h2, g1, g2, h4, g4, g5, h6⟩, g3, g6⟩
  · rintro ⟨w1, w2, rfl, ok, h1, h2⟩
    exact ⟨[_], _, rfl, ⟨rfl, ok.frm⟩, [_], _, rfl, ⟨rfl, ok.to⟩, [_, _, _], _, rfl, repExq.2 ⟨_, rfl, ok.gk, ok.gv, h1⟩, [_], _, rfl, ⟨rfl, ok.var⟩, [_, _, _], _, rfl, repExq.2 ⟨_, rfl, ok.vk, ok.vv, h2⟩, rfl, ok.sync⟩
theorem ownEd {e : Ed} : Ty.own r cs e ↔ ∃ w1 w2 r1 r2, cs = e.cs w1 w2 ∧ e.ok ∧ r = r1.add r2 ∧ Dj r1 r2 ∧ Own r1 w1 e.guard.kids ∧ Own r2 w2 e.value.kids := by
  constructor
  · rintro ⟨c1, c2, _, _, rfl, rfl, _, ⟨rfl, rfl, h1⟩, c3, c4, _, _, rfl, rfl, _, ⟨rfl, rfl, h2⟩, c5, c6, ra, rb, rfl, rfl, d, h3, c7, c8, _, _, rfl, rfl, _, ⟨rfl, rfl, h4⟩, c9, c0, rc, rd, rfl, rfl, d2, h5, rfl, rfl, h6⟩
    obtain ⟨w1, rfl, g1, g2, g3⟩ := ownExq.1 h3
    obtain ⟨w2, rfl, g4, g5, g6⟩ := ownExq.1 h5
    exact ⟨w1, w2, ra, rc, rfl, ⟨h1, h2, g1, g2, h4, g4, g5, h6⟩, by simp, by simpa using d, g3, g6⟩
  · rintro ⟨w1, w2, r1, r2, rfl, ok, rfl, d, h1, h2⟩
    exact ⟨[_], _, Heap.nil, r1.add r2, rfl, by simp, by simp, ⟨rfl, rfl, ok.frm⟩, [_], _, Heap.nil, r1.add r2, rfl, by simp, by simp, ⟨rfl, rfl, ok.to⟩, [_, _, _], _, r1, r2, rfl, rfl, d, ownExq.2 ⟨_, rfl, ok.gk, ok.gv, h1⟩,
      [_], _, Heap.nil, r2, rfl, by simp, by simp, ⟨rfl, rfl, ok.var⟩, [_, _, _], _, r2, Heap.nil, rfl, by simp, by simp, ownExq.2 ⟨_, rfl, ok.vk, ok.vv, h2⟩, rfl, rfl, ok.sync⟩
theorem Rep_Ed {e : Ed} : Rep h v e ↔ ∃ w1 w2, v = .agg (e.cs w1 w2).toArray ∧ e.ok ∧ Rep h w1 e.guard.kids ∧ Rep h w2 e.value.kids := by
  constructor
  · rintro ⟨cs, rfl, H⟩
    obtain ⟨w1, w2, rfl, h1⟩ := repEd.1 H
    exact ⟨w1, w2, rfl, h1⟩
  · rintro ⟨w1, w2, rfl, h1⟩
    exact ⟨_, rfl, repEd.2 ⟨w1, w2, rfl, h1⟩⟩
theorem HS.unEd {e : Ed} (H : HS g (ow v e :: Γ) h) : ∃ w1 w2, v = .agg (e.cs w1 w2).toArray ∧ e.ok ∧ HS g (ow w1 e.guard.kids :: ow w2 e.value.kids :: Γ) h := by
  obtain ⟨g', r, rfl, d, ⟨cs, rfl, O⟩, H⟩ := H
  obtain ⟨w1, w2, r1, r2, rfl, ok, rfl, d2, h1, h2⟩ := ownEd.1 O
  obtain ⟨d3, d4⟩ := Dj_add.1 d
  exact ⟨w1, w2, rfl, ok, g'.add r2, r1, by rw [add_assoc, d2.comm], add_Dj.2 ⟨d3, d2.symm⟩, h1, g', r2, rfl, d4, h2, H⟩
theorem HS.mkEd {e : Ed} {w1 w2 : Value} (H : HS g (ow w1 e.guard.kids :: ow w2 e.value.kids :: Γ) h) (ok : e.ok) : HS g (ow (.agg (e.cs w1 w2).toArray) e :: Γ) h :=
  H.join2 fun r1 r2 d h1 h2 => ⟨_, rfl, ownEd.2 ⟨w1, w2, r1, r2, rfl, ok, rfl, d, h1, h2⟩⟩
theorem Rep_Pr {p : Pr} : Rep h v p ↔ ∃ w, v = .agg #[.int .i64 p.locs, w] ∧ I64 p.locs ∧ Rep h w p.edges := by
  constructor
  · rintro ⟨cs, rfl, c1, c2, rfl, ⟨rfl, h1⟩, h2⟩
    obtain ⟨w, rfl, h3⟩ := (rep1 (α := List Ed) rfl).1 h2
    exact ⟨w, rfl, h1, h3⟩
  · rintro ⟨w, rfl, h1, h2⟩
    exact ⟨_, rfl, [_], [_], rfl, ⟨rfl, h1⟩, (rep1 (α := List Ed) rfl).2 ⟨w, rfl, h2⟩⟩
theorem HS.unPr {p : Pr} (H : HS g (ow v p :: Γ) h) : ∃ w, v = .agg #[.int .i64 p.locs, w] ∧ I64 p.locs ∧ HS g (ow w p.edges :: Γ) h := by
  obtain ⟨g', r, rfl, d, ⟨cs, rfl, c1, c2, r1, r2, rfl, rfl, d2, ⟨rfl, rfl, h1⟩, h2⟩, H⟩ := H
  obtain ⟨w, rfl, h3⟩ := (own1 (α := List Ed) rfl).1 h2
  exact ⟨w, rfl, h1, g', r2, by simp, by simpa using d, h3, H⟩
theorem HS.mkPr {p : Pr} {w : Value} (H : HS g (ow w p.edges :: Γ) h) (h1 : I64 p.locs) : HS g (ow (.agg #[.int .i64 p.locs, w]) p :: Γ) h :=
  H.imp fun r O => ⟨_, rfl, [_], [_], Heap.nil, r, rfl, by simp, by simp, ⟨rfl, rfl, h1⟩, (own1 (α := List Ed) rfl).2 ⟨w, rfl, O⟩⟩
theorem Rep_Sy {s : Sy} : Rep h v s ↔ ∃ w1 w2, v = .agg #[w1, w2] ∧ Rep h w1 s.init ∧ Rep h w2 s.procs := by
  constructor
  · rintro ⟨cs, rfl, c1, c2, rfl, h1, h2⟩
    obtain ⟨w1, rfl, h3⟩ := (rep1 (α := List Int) rfl).1 h1
    obtain ⟨w2, rfl, h4⟩ := (rep1 (α := List Pr) rfl).1 h2
    exact ⟨w1, w2, rfl, h3, h4⟩
  · rintro ⟨w1, w2, rfl, h1, h2⟩
    exact ⟨_, rfl, [_], [_], rfl, (rep1 (α := List Int) rfl).2 ⟨w1, rfl, h1⟩, (rep1 (α := List Pr) rfl).2 ⟨w2, rfl, h2⟩⟩
theorem HS.unSy {s : Sy} (H : HS g (ow v s :: Γ) h) : ∃ w1 w2, v = .agg #[w1, w2] ∧ HS g (ow w1 s.init :: ow w2 s.procs :: Γ) h := by
  obtain ⟨g', r, rfl, d, ⟨cs, rfl, c1, c2, r1, r2, rfl, rfl, d2, h1, h2⟩, H⟩ := H
  obtain ⟨w1, rfl, h3⟩ := (own1 (α := List Int) rfl).1 h1
  obtain ⟨w2, rfl, h4⟩ := (own1 (α := List Pr) rfl).1 h2
  obtain ⟨d3, d4⟩ := Dj_add.1 d
  exact ⟨w1, w2, rfl, g'.add r2, r1, by rw [add_assoc, d2.comm], add_Dj.2 ⟨d3, d2.symm⟩, h3, g', r2, rfl, d4, h4, H⟩
theorem HS.mkSy {s : Sy} {w1 w2 : Value} (H : HS g (ow w1 s.init :: ow w2 s.procs :: Γ) h) : HS g (ow (.agg #[w1, w2]) s :: Γ) h :=
  H.join2 fun r1 r2 d h1 h2 => ⟨_, rfl, [_], [_], r1, r2, rfl, rfl, d, (own1 (α := List Int) rfl).2 ⟨w1, rfl, h1⟩, (own1 (α := List Pr) rfl).2 ⟨w2, rfl, h2⟩⟩
theorem Rep.aEd {x : Ed} (hr : Rep h v x) : pgetV (some v) 0 (some 10) = some v ∧ v.cells.size = 10 ∧ allOne v.cells.toList = true ∧ Value.agg v.cells = v := hr.A rfl rfl
theorem Rep.aPr {x : Pr} (hr : Rep h v x) : pgetV (some v) 0 (some 2) = some v ∧ v.cells.size = 2 ∧ allOne v.cells.toList = true ∧ Value.agg v.cells = v := hr.A rfl rfl
theorem Rep.aSy {x : Sy} (hr : Rep h v x) : pgetV (some v) 0 (some 2) = some v ∧ v.cells.size = 2 ∧ allOne v.cells.toList = true ∧ Value.agg v.cells = v := hr.A rfl rfl
end

end Go.Proofs.Ytonjglbachhdcaa

/-
  Parts of elements, written and read where they lie; copies of lists whose elements are replaced one by one; sizes and marks of expressions and systems.
-/
namespace Go.Proofs.Ytonjglbachhdcaa
open Go
set_option linter.all false
set_option linter.unusedVariables false
set_option linter.unusedSimpArgs false
set_option linter.defProp false
set_option maxRecDepth 1000000

theorem setC_get {cs c : List Value} {n j : Nat} (h : n + c.length ≤ cs.length) : (setC cs n c)[j]? = if j < n then cs[j]? else if j < n + c.length then c[j - n]? else cs[j]? := by
  unfold setC
  simp only [List.getElem?_append, List.getElem?_take, List.getElem?_drop, List.length_append, List.length_take]
  rw [Nat.min_eq_left (by omega : n ≤ cs.length)]
  by_cases h1 : j < n
  · rw [if_pos (by omega), if_pos h1, if_pos h1, if_pos h1]
  · by_cases h2 : j < n + c.length
    · rw [if_pos h2, if_neg h1, if_neg h1, if_pos h2]
    · rw [if_neg h2, if_neg h1, if_neg h2]
      congr 1; omega
theorem setC_over {cs d c : List Value} {n fo : Nat} (hd : fo + d.length ≤ c.length) (hl : n + c.length ≤ cs.length) : setC (setC cs (n + fo) d) n c = setC cs n c := by
  apply List.ext_getElem?
  intro j
  rw [setC_get (by rw [setC_length (by omega)]; exact hl), setC_get hl, setC_get (by omega)]
  by_cases h1 : j < n
  · rw [if_pos h1, if_pos h1, if_pos (by omega)]
  · by_cases h2 : j < n + c.length
    · rw [if_neg h1, if_neg h1, if_pos h2, if_pos h2]
    · rw [if_neg h1, if_neg h1, if_neg h2, if_neg h2, if_neg (by omega), if_neg (by omega)]
theorem setC_slot {cs d : List Value} {n fo m : Nat} (hd : fo + d.length ≤ m) (hl : n + m ≤ cs.length) : ((setC cs (n + fo) d).drop n).take m = setC ((cs.drop n).take m) fo d := by
  apply List.ext_getElem?
  intro j
  rw [setC_get (by simp; omega)]
  simp only [List.getElem?_take, List.getElem?_drop]
  by_cases h1 : j < m
  · rw [if_pos h1, if_pos h1, setC_get (by omega)]
    by_cases h2 : j < fo
    · rw [if_pos (by omega), if_pos h2]
    · by_cases h3 : j < fo + d.length
      · rw [if_neg (by omega), if_pos (by omega), if_neg h2, if_pos h3]
        congr 1; omega
      · rw [if_neg (by omega), if_neg (by omega), if_neg h2, if_neg h3]
  · rw [if_neg h1, if_neg h1, if_neg (by omega), if_neg (by omega)]

section
variable {α : Type} [Ty α] {P : Program} {k : Env → Heap → Prop} {e : Env} {g h : Heap} {Γ : List HP} {v w : Value} {l : List α} {i : Nat} {cs : List Value}
/-- writing a part of an element that was taken away -/
theorem HS.holest (H : HS g (hole v l i (.agg cs.toArray) :: Γ) h) (ha : Ty.agg α = true) {a x : O} {n fo m : Nat} (hn : n = Ty.sz α) (hp : a.get e = some (elpo n v i fo)) (hx : x.get e = some w) (hu : w.cells.size = m) (hu1 : allOne w.cells.toList = true) (hf : fo + m ≤ n)
    (K : ∀ h', HS g (hole v l i (.agg (setC cs fo w.cells.toList).toArray) :: Γ) h' → k e h') : (A.ex none (.store m a x)).wp P k e h := by
  subst hn
  obtain ⟨g', r, rfl, d, Ho, H⟩ := H
  obtain ⟨b, off, cap, cells, el, r', rfl, hi, ⟨h1, hM⟩, h2, rfl, h4, h5, h6⟩ := Ho
  have hs := slot_le (s := Ty.sz α) hi h1
  obtain ⟨d3, d4⟩ := Dj_add.1 d
  have hb : (g'.add ((Heap.one b (.cells cells.toArray el (0, 0))).add r')) b = some (.cells cells.toArray el (0, 0)) := by
    have := Dj_one.1 d3
    simp [Heap.add, Heap.one, this, h4]
  have hw : w.cells.toList.length = m := by simpa using hu
  have hcs : cs = ((cells.drop off).drop (i * Ty.sz α)).take (Ty.sz α) := by
    simpa [valC, ha] using h5
  have hdr : (setC cells (off + i * Ty.sz α + fo) w.cells.toList).drop off = setC (cells.drop off) (i * Ty.sz α + fo) w.cells.toList := by
    rw [Nat.add_assoc, drop_setC (by rw [hw]; omega)]
  refine ⟨b, off + i * Ty.sz α + fo, w, g'.add ((Heap.one b (.cells (setC cells (off + i * Ty.sz α + fo) w.cells.toList).toArray el (0, 0))).add r'), ?_, hx, hu, ?_,
    Fgt.keep (K _ ⟨g', _, rfl, Dj_add.2 ⟨Dj_one.2 (Dj_one.1 d3), d4⟩, ⟨b, off, cap, _, el, r', rfl, hi, ⟨h1, hM⟩, ?_, rfl, h4, ?_, ?_⟩, H⟩)⟩
  · rw [hp]; simp [elpo, add_none]
  · unfold hstore
    rw [hb]
    simp only
    rw [if_pos (by refine ⟨trivial, ?_, ?_⟩; · simp [hu]; omega
                   · rw [allOne_eq]; exact hu1), add_one_set (Dj_one.1 d3) h4]
  · rw [setC_length (by rw [hw]; omega)]; exact h2
  · rw [hdr, setC_slot (by rw [hw]; exact hf) (by simp; omega), ← hcs]
    simp [valC, ha]
  · intro r1' c' y dd o
    have hlen := Ty.len (Ty.own_rep o)
    rw [hdr, setC_over (by rw [hw, hlen]; exact hf) (by rw [hlen]; simp; omega)]
    exact h6 r1' c' y dd o

/-- an element's parts, where its cells are known -/
theorem hld_parts {n : Nat} (hv : hload h (some (elp n v i)) (some n) = some (.agg cs.toArray)) : (∀ fo, faV fo (elp n v i) = some (elpo n v i fo)) ∧ (∀ a b, faV b (elpo n v i a) = some (elpo n v i (a + b))) ∧
    (∀ fo, fo < n → hload h (some (elpo n v i fo)) none = cs[fo]?) ∧ (∀ fo m, fo + m ≤ n → hload h (some (elpo n v i fo)) (some m) = some (.agg ((cs.drop fo).take m).toArray)) := by
  unfold elp at hv
  split at hv
  case h_2 => simp [undef, hload] at hv
  case h_1 p c d =>
    have hz : ∃ b off, p.add (i * n) = ⟨b, off, none⟩ := by
      generalize hq : p.add (i * n) = q at hv
      obtain ⟨b, off, sp⟩ := q
      cases sp with
      | none => exact ⟨b, off, rfl⟩
      | some s => simp [hload] at hv
    obtain ⟨b, off, hz⟩ := hz
    rw [hz] at hv
    simp only [hload, Option.map_eq_some_iff] at hv
    obtain ⟨l, h1, h2⟩ := hv
    have h2 : l = cs := by simpa using h2
    subst h2
    have h3 := hcells_get h1
    have hsub : ∀ m fo, fo + m ≤ n → hcells h b (off + fo) m = some ((l.drop fo).take m) := by
      intro m
      induction m with
      | zero => intro fo _; simp [hcells]
      | succ m ih =>
        intro fo hf
        have h4 := ih (fo + 1) (by omega)
        have h5 := h3.2 fo (l[fo]'(by rw [h3.1]; omega)) (List.getElem?_eq_getElem _)
        simp only [hcells, h5]
        rw [show off + fo + 1 = off + (fo + 1) by omega, h4]
        simp only [Option.some.injEq]
        rw [List.drop_eq_getElem_cons (by rw [h3.1]; omega : fo < l.length), List.take_succ_cons]
    refine ⟨fun fo => ?_, fun a c => ?_, fun fo hf => ?_, fun fo m hf => ?_⟩
    · simp only [elp, elpo, hz, add_none, faV]
    · simp only [elpo, hz, add_none, faV]
      simp [Nat.add_assoc]
    · have h5 := h3.2 fo (l[fo]'(by rw [h3.1]; omega)) (List.getElem?_eq_getElem _)
      simp only [elpo, hz, add_none, hload, h5]
      exact (List.getElem?_eq_getElem _).symm
    · simp only [elpo, hz, add_none, hload, hsub m fo hf]
      rfl
theorem HS.holeP (H : HS g (hole v l i (.agg cs.toArray) :: Γ) h) (ha : Ty.agg α = true) {n : Nat} (hn : n = Ty.sz α) : hload h (some (elp n v i)) (some n) = some (.agg cs.toArray) := by
  have := H.holeld
  subst hn
  simpa [szo, ha] using this
end

/-- an element of a copy: as it was copied, or replaced -/
inductive Mix (α : Type) where
  | raw (cs : List Value)
  | new (x : α)
section
variable {α : Type} [Ty α]
def Mix.rep (h : Heap) (cs : List Value) : Mix α → Prop
  | .raw c => cs = c ∧ c.length = Ty.sz α ∧ ∀ v ∈ c, v.oneCell' = true
  | .new x => Ty.rep h cs x
def Mix.own (r : Heap) (cs : List Value) : Mix α → Prop
  | .raw c => r = Heap.nil ∧ cs = c ∧ c.length = Ty.sz α ∧ ∀ v ∈ c, v.oneCell' = true
  | .new x => Ty.own r cs x
instance instTyMix : Ty (Mix α) where
  agg := Ty.agg α
  sz := Ty.sz α
  rep := Mix.rep
  own := Mix.own
  one := Ty.one
  len := by
    intro h cs x hx
    cases x with
    | raw c => obtain ⟨rfl, h1, _⟩ := hx; exact h1
    | new x => exact Ty.len (x := x) hx
  cell := by
    intro h cs x hx
    cases x with
    | raw c => obtain ⟨rfl, _, h1⟩ := hx; exact h1
    | new x => exact Ty.cell (x := x) hx
  mono := by
    intro h h' cs x hl hx
    cases x with
    | raw c => exact hx
    | new x => exact Ty.mono (x := x) hl hx
  own_rep := by
    intro r cs x hx
    cases x with
    | raw c => exact hx.2
    | new x => exact Ty.own_rep (x := x) hx
theorem ownL_new : ∀ {l : List α} {cs : List Value} {r : Heap}, ownL (l.map Mix.new) cs r → ownL l cs r
  | [], _, _, H => H
  | x :: l, cs, r, ⟨r1, r2, h1, h2, h3, h4⟩ => ⟨r1, r2, h1, h2, h3, ownL_new h4⟩
theorem HS.mixed {g h : Heap} {Γ : List HP} {v : Value} {l : List α} (H : HS g (ow v (l.map Mix.new) :: Γ) h) : HS g (ow v l :: Γ) h := by
  refine H.imp fun r O => ?_
  have O : Own r v (l.map (Mix.new (α := α))) := O
  rcases Own_list.1 O with ⟨p, rfl, h1, h2, h3⟩ | ⟨b, off, cap, cells, el, r', rfl, h1, h2, h3, h4, h5⟩
  · exact Own_list.2 (.inl ⟨p, rfl, by simpa using h1, h2, h3⟩)
  · exact Own_list.2 (.inr ⟨b, off, cap, cells, el, r', by simp, by simpa using h1, h2, h3, h4, ownL_new h5⟩)
theorem HS.newO {g h : Heap} {Γ : List HP} {v : Value} {x : α} (H : HS g (ow v x :: Γ) h) : HS g (ow v (Mix.new x) :: Γ) h := H.imp fun _ O => O
theorem HS.unraw {g h : Heap} {Γ : List HP} {v : Value} {c : List Value} (H : HS g (ow v (Mix.raw (α := α) c) :: Γ) h) : v = valC (Ty.agg α) c ∧ HS g Γ h := by
  obtain ⟨g', r, rfl, d, ⟨cs, rfl, rfl, rfl, _⟩, H⟩ := H
  exact ⟨rfl, by simpa using H⟩

/-- a copy's elements, as they were copied -/
structure Raws (h : Heap) (l : List α) (M : List (Mix α)) : Prop where
  len : M.length = l.length
  at' : ∀ (i : Nat) (hi : i < l.length), ∃ c, M[i]? = some (.raw c) ∧ Ty.rep h c l[i]

theorem Rep.srcR {h : Heap} {v : Value} {l : List α} (hr : Rep h v l) : ∃ (M : List (Mix α)) (cs : List Value), Raws h l M ∧ srcV h (Ty.sz α) (some v) = some (l.length, cs) ∧ cs.length = l.length * Ty.sz α ∧ ownL M cs Heap.nil := by
  obtain ⟨p, cap, rfl, h1, h2, h3⟩ := Rep_list.1 hr
  cases hl : l with
  | nil => subst hl; exact ⟨[], [], ⟨rfl, fun i hi => absurd hi (Nat.not_lt_zero i)⟩, rfl, by simp, rfl⟩
  | cons y l' =>
    rw [← hl]
    obtain ⟨b, off, vs, rfl, _⟩ := h3 0 (by rw [hl]; simp)
    have key : ∀ n, n ≤ l.length → ∃ (M : List (Mix α)) (cs : List Value), M.length = n ∧ (∀ (i : Nat) (hi : i < l.length), i < n → ∃ c, M[i]? = some (.raw c) ∧ Ty.rep h c l[i]) ∧ hcells h b off (n * Ty.sz α) = some cs ∧ cs.length = n * Ty.sz α ∧ ownL M cs Heap.nil := by
      intro n
      induction n with
      | zero => intro _; exact ⟨[], [], rfl, fun i _ hi => absurd hi (Nat.not_lt_zero i), by simp [hcells], by simp, rfl⟩
      | succ n ih =>
        intro hn
        obtain ⟨M, cs, g1, g2, g3, g4, g5⟩ := ih (by omega)
        obtain ⟨b', off', vs, e1, e2, e3⟩ := h3 n (by omega)
        simp only [Option.some.injEq, Addr.mk.injEq] at e1
        obtain ⟨rfl, rfl, _⟩ := e1
        have hlen := Ty.len e3
        refine ⟨M ++ [.raw vs], cs ++ vs, by simp [g1], ?_, ?_, ?_, ?_⟩
        · intro i hi hin
          by_cases hh : i < n
          · obtain ⟨c, f1, f2⟩ := g2 i hi hh
            exact ⟨c, by rw [List.getElem?_append_left (by omega)]; exact f1, f2⟩
          · obtain rfl : i = n := by omega
            exact ⟨vs, by rw [← g1, List.getElem?_append_right (Nat.le_refl _)]; simp, e3⟩
        · rw [show (n + 1) * Ty.sz α = n * Ty.sz α + Ty.sz α by rw [Nat.add_mul]; omega]
          exact hcells_add g3 e2
        · rw [List.length_append, g4, hlen, Nat.add_mul]; omega
        · have := ownL_append (l2 := [Mix.raw vs]) (cs2 := vs) (r2 := Heap.nil) g5 (by rw [g4, g1]; rfl) ⟨Heap.nil, Heap.nil, by simp, by simp, ⟨rfl, ?_, hlen, Ty.cell e3⟩, rfl⟩ (by simp)
          · simpa using this
          · show List.take (Ty.sz α) vs = vs
            rw [List.take_of_length_le (by omega)]
    obtain ⟨M, cs, g1, g2, g3, g4, g5⟩ := key l.length (Nat.le_refl _)
    exact ⟨M, cs, ⟨g1, fun i hi => g2 i hi hi⟩, srcV_slice g3, g4, g5⟩

/-- a copy of a list that is only read: its elements' cells -/
theorem HS.appPLr {P : Program} {k : Env → Heap → Prop} {e : Env} {g h : Heap} {Γ : List HP} {u : Value} {l2 : List α} (H : HS g Γ h) {bytes esz : Nat} {zero : List Value} {j : Nat} {x : O} {dst : Nat} {c0 : Array Value} (hp : eget e j = some (.agg c0)) (hx : x.get e = some u) (hr : Rep h u l2) (hsz : esz = Ty.sz α) (hz : zero.length = Ty.sz α) (hb : l2.length * bytes ≤ 140737488355328)
    (K : ∀ v' h' (M : List (Mix α)), Raws h l2 M → HS g (ow v' M :: Γ) h' → k (eset e dst (some v')) h') : (A.ex (some dst) (.app bytes esz zero (.p 0 j) (.o x))).wp P k e h := by
  subst hsz
  obtain ⟨M, cs, hM, h1, h2, h3⟩ := hr.srcR
  have hl := hM.len
  refine a_appP (α := Mix α) (rs := Heap.nil) (l2 := M) hp ?_ (by rw [hl]; exact h2) h3 Dj_nil (by simp) hz (by rw [hl]; exact hb) (by have := hr.lt; omega) fun v' r' d' O' => K _ _ M hM ⟨h, r', rfl, d', O', H⟩
  simp only [AO.src, hx, hl]
  exact h1
end

/-- how far the replacing has come -/
structure Mixed {α : Type} [Ty α] (h : Heap) (l : List α) (f : α → α) (M : List (Mix α)) (i : Nat) : Prop where
  len : M.length = l.length
  done : M.take i = ((l.map f).take i).map Mix.new
  rest : ∀ (j : Nat) (hj : j < l.length), i ≤ j → ∃ c, M[j]? = some (.raw c) ∧ Ty.rep h c l[j]
section
variable {α : Type} [Ty α] {h : Heap} {l : List α} {f : α → α} {M : List (Mix α)} {i : Nat}
theorem Mixed.zero (R : Raws h l M) : Mixed h l f M 0 := ⟨R.len, rfl, fun j hj _ => R.at' j hj⟩
theorem Mixed.le {h' : Heap} (H : Mixed h l f M i) (hl : h.le h') : Mixed h' l f M i := ⟨H.len, H.done, fun j hj hij => by
  obtain ⟨c, h1, h2⟩ := H.rest j hj hij
  exact ⟨c, h1, Ty.mono hl h2⟩⟩
theorem Mixed.get (H : Mixed h l f M i) (hi : i < l.length) : ∃ c, M[i]'(by rw [H.len]; exact hi) = .raw c ∧ Ty.rep h c l[i] := by
  obtain ⟨c, h1, h2⟩ := H.rest i hi (Nat.le_refl i)
  refine ⟨c, ?_, h2⟩
  rw [List.getElem?_eq_getElem (by rw [H.len]; exact hi)] at h1
  exact Option.some.inj h1
theorem Mixed.step (H : Mixed h l f M i) (hi : i < l.length) : Mixed h l f (M.set i (.new (f l[i]))) (i + 1) := by
  refine ⟨by simp [H.len], ?_, fun j hj hij => ?_⟩
  · have h1 : M.take i = (l.map fun x => Mix.new (f x)).take i := by rw [H.done, List.map_take, List.map_map]; rfl
    have := take_set_succ (x := l.map fun x => Mix.new (f x)) h1 (by simpa using hi) (by simp [H.len])
    rw [List.getElem_map] at this
    rw [this, List.map_take, List.map_map]
    rfl
  · rw [List.getElem?_set_ne (by omega)]
    exact H.rest j hj (by omega)
theorem Mixed.all (H : Mixed h l f M i) (hi : l.length ≤ i) : M = (l.map f).map Mix.new := by
  have := H.done
  rw [List.take_of_length_le (by rw [H.len]; exact hi), List.take_of_length_le (by simpa using hi)] at this
  exact this
end

/- SIZES AND MARKS -/
mutual
def Exq.size : Exq → Nat
  | .mk _ _ l => Exq.sizes l
def Exq.sizes : List Exq → Nat
  | [] => 0
  | x :: l => 1 + x.size + Exq.sizes l
end
instance instSzExq : Sz Exq := ⟨Exq.size⟩
theorem Exq.sizes_eq : ∀ l, Exq.sizes l = Sz.sz l
  | [] => by simp [Exq.sizes, sz_list, szL]
  | x :: l => by
    have := Exq.sizes_eq l
    rw [sz_list] at this ⊢
    simp only [Exq.sizes, szL, List.length_cons, this]
    show 1 + Sz.sz x + _ = _
    omega
theorem sz_Exq (x : Exq) : Sz.sz x = Sz.sz x.kids := by
  cases x with
  | mk k v l => exact Exq.sizes_eq l
instance instSzEd : Sz Ed := ⟨fun e => Sz.sz e.guard + Sz.sz e.value⟩
instance instSzPr : Sz Pr := ⟨fun p => Sz.sz p.edges⟩
instance instSzSy : Sz Sy := ⟨fun s => Sz.sz s.init + Sz.sz s.procs⟩

mutual
def Exq.cnt : Exq → Nat
  | .mk _ _ l => 2 + Exq.cnts l
def Exq.cnts : List Exq → Nat
  | [] => 0
  | x :: l => x.cnt + Exq.cnts l
end
mutual
def Exq.wr : Int → Exq → Exq
  | k, .mk _ _ l => .mk k (k + 1) (Exq.wrs (k + 2) l)
def Exq.wrs : Int → List Exq → List Exq
  | _, [] => []
  | k, x :: l => x.wr k :: Exq.wrs (k + x.cnt) l
end
mutual
theorem Exq.cnt_wr : ∀ (k : Int) (x : Exq), (Exq.wr k x).cnt = x.cnt
  | k, .mk _ _ l => by simp only [Exq.wr, Exq.cnt, Exq.cnts_wrs (k + 2) l]
theorem Exq.cnts_wrs : ∀ (k : Int) (l : List Exq), Exq.cnts (Exq.wrs k l) = Exq.cnts l
  | _, [] => rfl
  | k, x :: l => by simp only [Exq.wrs, Exq.cnts, Exq.cnt_wr k x, Exq.cnts_wrs (k + x.cnt) l]
end
mutual
theorem Exq.wr_wr : ∀ (k j : Int) (x : Exq), Exq.wr k (Exq.wr j x) = Exq.wr k x
  | k, j, .mk _ _ l => by simp only [Exq.wr, Exq.wrs_wrs (k + 2) (j + 2) l]
theorem Exq.wrs_wrs : ∀ (k j : Int) (l : List Exq), Exq.wrs k (Exq.wrs j l) = Exq.wrs k l
  | _, _, [] => rfl
  | k, j, x :: l => by simp only [Exq.wrs, Exq.cnt_wr j x, Exq.wr_wr k j x, Exq.wrs_wrs (k + x.cnt) (j + x.cnt) l]
end
instance instMkExq : Mk Exq := ⟨Exq.cnt, Exq.wr, Exq.cnt_wr, Exq.wr_wr⟩
instance instMkEd : Mk Ed := ⟨fun e => Mk.cnt e.frm + Mk.cnt e.to + Mk.cnt e.guard + Mk.cnt e.var + Mk.cnt e.value + Mk.cnt e.sync,
  fun k e => ⟨Mk.wr k e.frm, Mk.wr (k + Mk.cnt e.frm) e.to, Mk.wr (k + Mk.cnt e.frm + Mk.cnt e.to) e.guard, Mk.wr (k + Mk.cnt e.frm + Mk.cnt e.to + Mk.cnt e.guard) e.var,
    Mk.wr (k + Mk.cnt e.frm + Mk.cnt e.to + Mk.cnt e.guard + Mk.cnt e.var) e.value, Mk.wr (k + Mk.cnt e.frm + Mk.cnt e.to + Mk.cnt e.guard + Mk.cnt e.var + Mk.cnt e.value) e.sync⟩,
  fun k a => by simp [Mk.cnt_wr], fun k j a => by simp [Mk.cnt_wr, Mk.wr_wr]⟩
instance instMkPr : Mk Pr := ⟨fun p => Mk.cnt p.locs + Mk.cnt p.edges, fun k p => ⟨Mk.wr k p.locs, Mk.wr (k + Mk.cnt p.locs) p.edges⟩, fun k a => by simp [Mk.cnt_wr], fun k j a => by simp [Mk.cnt_wr, Mk.wr_wr]⟩
instance instMkSy : Mk Sy := ⟨fun p => Mk.cnt p.init + Mk.cnt p.procs, fun k p => ⟨Mk.wr k p.init, Mk.wr (k + Mk.cnt p.init) p.procs⟩, fun k a => by simp [Mk.cnt_wr], fun k j a => by simp [Mk.cnt_wr, Mk.wr_wr]⟩
end Go.Proofs.Ytonjglbachhdcaa

/-
  Expressions and systems in plain Lean: when they are valid, what they are worth, which variables they name.
-/
namespace Go.Proofs.Ytonjglbachhdcaa
open Go
set_option linter.all false
set_option linter.unusedVariables false
set_option linter.unusedSimpArgs false
set_option linter.defProp false
set_option maxRecDepth 1000000

theorem foldl_tk {α β : Type} {f : β → α → β} {b : β} {l : List α} {i : Nat} (hi : i < l.length) : (l.take (i + 1)).foldl f b = f ((l.take i).foldl f b) l[i] := by
  rw [List.take_add_one, List.getElem?_eq_getElem hi, List.foldl_append]; rfl

/-- values of the variables -/
def VOk (vs : List Int) : Prop := vs.length = 3 ∧ ∀ x ∈ vs, 0 ≤ x ∧ x ≤ 3
theorem VOk.len {vs : List Int} (h : VOk vs) : vs.length = 3 := h.1
theorem VOk.at {vs : List Int} (h : VOk vs) {i : Nat} (hi : i < vs.length) : 0 ≤ vs[i] ∧ vs[i] ≤ 3 := h.2 _ (List.getElem_mem hi)
noncomputable instance {vs : List Int} : Decidable (VOk vs) := Classical.propDecidable _

namespace Exq
def arity (k : Int) : Int := if k = 1 ∨ k = 2 then 0 else if k = 3 then 1 else if 4 ≤ k ∧ k ≤ 9 then 2 else -1
def most (k : Int) : Int := if k = 1 then 3 else if k = 2 then 2 else 0
/-- one node is well made -/
structure Nd (x : Exq) : Prop where
  ar : (x.kids.length : Int) = arity x.kind
  lo : 0 ≤ x.val
  hi : x.val ≤ most x.kind
/-- well made, so many levels -/
def Shp : Nat → Exq → Prop
  | 0, _ => False
  | n + 1, x => x.Nd ∧ ∀ y ∈ x.kids, Shp n y
mutual
def nod : Exq → Nat
  | .mk _ _ l => 1 + nods l
def nods : List Exq → Nat
  | [] => 0
  | x :: l => x.nod + nods l
end
theorem nod_eq (x : Exq) : x.nod = 1 + nods x.kids := by cases x; rfl
theorem nods_take : ∀ {l : List Exq} {i : Nat} (hi : i < l.length), nods (l.take (i + 1)) = nods (l.take i) + l[i].nod
  | x :: l, 0, _ => by simp [nods]
  | x :: l, i + 1, hi => by
    have := nods_take (l := l) (i := i) (by simpa using hi)
    simp only [List.take_succ_cons, nods, List.getElem_cons_succ, this]; omega
theorem nods_le : ∀ (l : List Exq) (i : Nat), nods (l.take i) ≤ nods l
  | [], i => by simp
  | x :: l, 0 => by simp [nods]
  | x :: l, i + 1 => by
    simp only [List.take_succ_cons, nods]
    have := nods_le l i
    omega
/-- valid -/
def Ok (x : Exq) : Prop := x.Shp 6 ∧ x.nod ≤ 15
noncomputable instance {x : Exq} : Decidable x.Ok := Classical.propDecidable _
def zero : Exq := .mk 0 0 []

theorem Nd.kind {x : Exq} (h : x.Nd) : 1 ≤ x.kind ∧ x.kind ≤ 9 := by
  have := h.ar
  unfold arity at this
  split at this <;> (try split at this) <;> (try split at this) <;> omega
theorem Shp.nd {n : Nat} {x : Exq} (h : x.Shp n) : x.Nd := by
  cases n with
  | zero => exact h.elim
  | succ n => exact h.1
theorem Shp.kid {n : Nat} {x : Exq} (h : x.Shp (n + 1)) {i : Nat} (hi : i < x.kids.length) : x.kids[i].Shp n := h.2 _ (List.getElem_mem hi)
theorem Shp.bnd : ∀ {n : Nat} {x : Exq}, x.Shp n → x.nod < 2 ^ n
  | 0, _, h => h.elim
  | n + 1, x, h => by
    have h1 := h.1.ar
    have h2 : x.kids.length ≤ 2 := by
      unfold arity at h1
      split at h1 <;> (try split at h1) <;> (try split at h1) <;> omega
    have h3 : nods x.kids + x.kids.length ≤ x.kids.length * 2 ^ n := by
      have key : ∀ l : List Exq, (∀ y ∈ l, Shp n y) → nods l + l.length ≤ l.length * 2 ^ n := by
        intro l
        induction l with
        | nil => intro _; simp [nods]
        | cons y l ih =>
          intro hl
          have g1 := Shp.bnd (hl y (by simp))
          have g2 := ih fun z hz => hl z (by simp [hz])
          simp only [nods, List.length_cons, Nat.add_mul]
          omega
      exact key _ h.2
    have h4 : x.kids.length * 2 ^ n ≤ 2 * 2 ^ n := Nat.mul_le_mul_right _ h2
    have h5 : 0 < 2 ^ n := Nat.pow_pos (by decide)
    rw [nod_eq, Nat.pow_succ]
    by_cases h6 : x.kids.length = 0
    · have : x.kids = [] := List.length_eq_zero_iff.1 h6
      rw [this]; simp only [nods]; omega
    · rcases (show x.kids.length = 1 ∨ x.kids.length = 2 by omega) with h7 | h7 <;> rw [h7] at h3 h4 <;> omega

/- WHAT IT IS WORTH -/
def tr (p : Prop) [Decidable p] : Int := if p then 1 else 0
def evk (vs : List Int) (k v a b : Int) : Int :=
  if k = 1 then v else if k = 2 then vs.getD v.toNat 0 else if k = 3 then tr (a = 0) else if k = 4 then tr (a ≠ 0 ∧ b ≠ 0) else if k = 5 then tr (a ≠ 0 ∨ b ≠ 0)
  else if k = 6 then tr (a = b) else if k = 7 then tr (a < b) else if k = 8 then (a + b).tmod 4 else (a - b + 4).tmod 4
mutual
def ev (vs : List Int) : Exq → Int
  | .mk k v l => evk vs k v ((evs vs l).getD 0 0) ((evs vs l).getD 1 0)
def evs (vs : List Int) : List Exq → List Int
  | [] => []
  | x :: l => x.ev vs :: evs vs l
end
theorem evs_eq {vs : List Int} : ∀ l, evs vs l = l.map (ev vs)
  | [] => rfl
  | x :: l => by simp only [evs, List.map_cons, evs_eq l]
def kev (x : Exq) (vs : List Int) (j : Nat) : Int := (x.kids.map (ev vs)).getD j 0
theorem ev_eq {vs : List Int} (x : Exq) : x.ev vs = evk vs x.kind x.val (x.kev vs 0) (x.kev vs 1) := by
  cases x with
  | mk k v l => simp only [ev, evs_eq]; rfl
theorem kev_at {vs : List Int} {x : Exq} {j : Nat} (hj : j < x.kids.length) : x.kev vs j = x.kids[j].ev vs := by
  simp [kev, hj]
theorem tr01 {p : Prop} [Decidable p] : 0 ≤ tr p ∧ tr p ≤ 1 := by unfold tr; split <;> omega
theorem ev_bnd {vs : List Int} (hv : VOk vs) : ∀ {n : Nat} {x : Exq}, x.Shp n → 0 ≤ x.ev vs ∧ x.ev vs ≤ 3
  | 0, _, h => h.elim
  | n + 1, x, h => by
    have hn := h.1
    rw [ev_eq]
    unfold evk
    have h1 := hn.lo
    have h2 := hn.hi
    have h3 := hn.ar
    have hk := hn.kind
    split
    · rename_i h4; rw [h4] at h2; simp [most] at h2; omega
    split
    · rename_i _ h4
      rw [h4] at h2; simp [most] at h2
      have h5 : x.val.toNat < vs.length := by rw [hv.len]; omega
      rw [List.getD_eq_getElem?_getD, List.getElem?_eq_getElem h5]
      exact hv.at h5
    split
    · have := tr01 (p := x.kev vs 0 = 0); omega
    have ha : (x.kids.length : Int) = 2 := by
      rw [h3]; unfold arity; rw [if_neg (by omega), if_neg (by assumption), if_pos (by omega)]
    have hl : x.kids.length = 2 := by omega
    have g0 := ev_bnd hv (h.kid (i := 0) (by omega))
    have g1 := ev_bnd hv (h.kid (i := 1) (by omega))
    rw [kev_at (by omega), kev_at (by omega)]
    split
    · have := tr01 (p := x.kids[0].ev vs ≠ 0 ∧ x.kids[1].ev vs ≠ 0); omega
    split
    · have := tr01 (p := x.kids[0].ev vs ≠ 0 ∨ x.kids[1].ev vs ≠ 0); omega
    split
    · have := tr01 (p := x.kids[0].ev vs = x.kids[1].ev vs); omega
    split
    · have := tr01 (p := x.kids[0].ev vs < x.kids[1].ev vs); omega
    split
    · rw [Int.tmod_eq_emod_of_nonneg (by omega)]; omega
    · rw [Int.tmod_eq_emod_of_nonneg (by omega)]; omega

/- WHICH VARIABLES IT NAMES -/
mutual
def mkv : Exq → List Bool → List Bool
  | .mk k v l, M => mkvs l (if k = 2 then M.set v.toNat true else M)
def mkvs : List Exq → List Bool → List Bool
  | [], M => M
  | x :: l, M => mkvs l (x.mkv M)
end
theorem mkvs_eq : ∀ (l : List Exq) (M : List Bool), mkvs l M = l.foldl (fun M x => x.mkv M) M
  | [], M => rfl
  | x :: l, M => by simp only [mkvs, List.foldl_cons, mkvs_eq l]
theorem mkv_eq (x : Exq) (M : List Bool) : x.mkv M = x.kids.foldl (fun M x => x.mkv M) (if x.kind = 2 then M.set x.val.toNat true else M) := by
  cases x with
  | mk k v l => simp only [mkv, mkvs_eq]; rfl
theorem fold_len {α : Type} {f : List Bool → α → List Bool} {n : Nat} : ∀ {l : List α} {M : List Bool}, (∀ x ∈ l, ∀ M : List Bool, M.length = n → (f M x).length = n) → M.length = n → (l.foldl f M).length = n
  | [], _, _, h => h
  | x :: l, M, hf, h => by
    rw [List.foldl_cons]
    exact fold_len (fun y hy => hf y (by simp [hy])) (hf x (by simp) M h)
theorem mkv_len {n : Nat} : ∀ (x : Exq) {M : List Bool}, M.length = n → (x.mkv M).length = n := by
  refine Exq.ind fun x ih M h => ?_
  rw [mkv_eq]
  refine fold_len (fun y hy M hM => ih y hy hM) ?_
  split <;> simp [h]
end Exq

/- SYSTEMS -/
structure Ed.Ok (e : Ed) (n : Int) : Prop where
  n1 : 1 ≤ n
  n4 : n ≤ 4
  f0 : 0 ≤ e.frm
  f1 : e.frm < n
  t0 : 0 ≤ e.to
  t1 : e.to < n
  gd : e.guard.Ok
  v0 : -1 ≤ e.var
  v1 : e.var ≤ 2
  vl : (0 ≤ e.var ∧ e.value.Ok) ∨ (e.var < 0 ∧ e.value = Exq.zero)
  s0 : -2 ≤ e.sync
  s1 : e.sync ≤ 2
noncomputable instance {e : Ed} {n : Int} : Decidable (e.Ok n) := Classical.propDecidable _
structure Pr.Ok (p : Pr) : Prop where
  n1 : 1 ≤ p.locs
  n4 : p.locs ≤ 4
  el : p.edges.length ≤ 6
  ed : ∀ e ∈ p.edges, e.Ok p.locs
noncomputable instance {p : Pr} : Decidable p.Ok := Classical.propDecidable _
structure Sy.Ok (s : Sy) : Prop where
  vs : VOk s.init
  p1 : 1 ≤ s.procs.length
  p3 : s.procs.length ≤ 3
  pr : ∀ p ∈ s.procs, p.Ok
noncomputable instance {s : Sy} : Decidable s.Ok := Classical.propDecidable _
theorem Sy.Ok.at {s : Sy} (h : s.Ok) {i : Nat} (hi : i < s.procs.length) : s.procs[i].Ok := h.pr _ (List.getElem_mem hi)
theorem Pr.Ok.at {p : Pr} (h : p.Ok) {i : Nat} (hi : i < p.edges.length) : p.edges[i].Ok p.locs := h.ed _ (List.getElem_mem hi)
/-- labels -/
structure LOk (l : List Exq) : Prop where
  len : l.length = 3
  ok : ∀ x ∈ l, x.Ok
noncomputable instance {l : List Exq} : Decidable (LOk l) := Classical.propDecidable _

/- WHICH VARIABLES MATTER -/
def relL (labels : List Exq) (M : List Bool) : List Bool := labels.foldl (fun M x => x.mkv M) M
def relG (s : Sy) (M : List Bool) : List Bool := s.procs.foldl (fun M p => p.edges.foldl (fun M e => e.guard.mkv M) M) M
def Ed.relv (M : List Bool) (e : Ed) : List Bool := if 0 ≤ e.var ∧ M.getD e.var.toNat false = true then e.value.mkv M else M
def relV (s : Sy) (M : List Bool) : List Bool := s.procs.foldl (fun M p => p.edges.foldl Ed.relv M) M
def Sy.rel (s : Sy) (labels : List Exq) : List Bool := relV s (relV s (relV s (relG s (relL labels [false, false, false]))))
theorem relL_len {labels : List Exq} {M : List Bool} {n : Nat} (h : M.length = n) : (relL labels M).length = n := Exq.fold_len (fun x _ _ h => x.mkv_len h) h
theorem relG_len {s : Sy} {M : List Bool} {n : Nat} (h : M.length = n) : (relG s M).length = n := Exq.fold_len (fun _ _ _ h => Exq.fold_len (fun _ _ _ h => Exq.mkv_len _ h) h) h
theorem Ed.relv_len {e : Ed} {M : List Bool} {n : Nat} (h : M.length = n) : (e.relv M).length = n := by
  unfold Ed.relv
  split
  · exact Exq.mkv_len _ h
  · exact h
theorem relV_len {s : Sy} {M : List Bool} {n : Nat} (h : M.length = n) : (relV s M).length = n := Exq.fold_len (fun _ _ _ h => Exq.fold_len (fun e _ _ h => e.relv_len h) h) h
theorem Sy.rel_len {s : Sy} {labels : List Exq} : (s.rel labels).length = 3 := relV_len (relV_len (relV_len (relG_len (relL_len rfl))))

end Go.Proofs.Ytonjglbachhdcaa

/-
  What the helpers of the laws do: copying, counting, comparing, marking. Printed by a program.
-/
namespace Go.Proofs.Ytonjglbachhdcaa
open Go
set_option linter.all false
set_option linter.unusedVariables false
set_option linter.unusedSimpArgs false
set_option linter.defProp false
set_option maxRecDepth 1000000

end Go.Proofs.Ytonjglbachhdcaa

/-
  What the helpers of the laws do with expressions, edges, processes and systems: copying, counting, comparing. Printed by a program.
-/
namespace Go.Proofs.Ytonjglbachhdcaa
open Go
set_option linter.all false
set_option linter.unusedVariables false
set_option linter.unusedSimpArgs false
set_option linter.defProp false
set_option maxRecDepth 1000000

theorem i64_0 : I64 0 := ⟨by decide, by decide⟩
def Ed.zero : Ed := ⟨0, 0, Exq.zero, 0, Exq.zero, 0⟩
def Pr.zero : Pr := ⟨0, []⟩
end Go.Proofs.Ytonjglbachhdcaa

/-
  Instances of functions over slices: copies, and whether some element meets a condition. Printed by a program.
-/
namespace Go.Proofs.Ytonjglbachhdcaa
open Go
set_option linter.all false
set_option linter.unusedVariables false
set_option linter.unusedSimpArgs false
set_option linter.defProp false
set_option maxRecDepth 1000000

theorem c_IndexFunc_int {h : Heap} {a fv : Value} {x : List (Int)} (Ra : Rep h a x) {f : FuncId} {c1 c2 : List Value} (hf : fnOf fv = some (f, c1, c2)) (p : (Int) → Bool)
    (hp : ∀ h1, h.le h1 → ∀ (i : Nat) (hi : i < x.length) (u : Value), Rep h1 u x[i] → CallE Try.prog f (c1 ++ u :: c2) h1 (fun v h' => h1.le h' ∧ v = .bool (p x[i]))) :
    CallE Try.prog fn_slices_IndexFunc_S_int_int [a, fv] h (fun v h' => h.le h' ∧ v = .int .i64 (match x.findIdx? p with | some i => (i : Int) | none => -1)) := by
  refine CallE.gen fun k hk => EN_slices_IndexFunc_S_int_int rfl ?_
  have hL := Ra.lt
  simp -implicitDefEqProofs (disch := first | omega | (simp only [List.length_set, List.length_replicate, List.length_append, List.length_map, List.length_take, List.length_cons, List.length_nil]; omega)) [wrap64, Ra.len]
  refine wp_count x.length (fun i e h' => e = [some a, some fv, none, none, some (.int .i64 x.length), some (.int .i64 i)] ∧ h.le h' ∧ ∀ (j : Nat) (hj : j < x.length), j < i → p x[j] = false) ⟨rfl, Heap.le.refl h, fun j _ hj => absurd hj (Nat.not_lt_zero j)⟩ ?_
  rintro J i _ h1 hJ hi ⟨rfl, hl, hn⟩
  simp -implicitDefEqProofs (disch := first | omega | (simp only [List.length_set, List.length_replicate, List.length_append, List.length_map, List.length_take, List.length_cons, List.length_nil]; omega)) [wrap64]
  refine IteW.mk (fun hlt => ?_) (fun hge => ?_)
  · have hlx : i < x.length := by omega
    obtain ⟨u, hu, Ru⟩ := (Ra.le hl).ld hlx
    change hload _ (some (elp 1 a i)) none = some u at hu
    simp -implicitDefEqProofs (disch := first | omega | (simp only [List.length_set, List.length_replicate, List.length_append, List.length_map, List.length_take, List.length_cons, List.length_nil]; omega)) [wrap64, (Ra.le hl).X (n := 1) rfl, hu, hf]
    refine (hp h1 hl i hlx u Ru).go ?_
    rintro _ h2 ⟨hl2, rfl⟩
    simp -implicitDefEqProofs (disch := first | omega | (simp only [List.length_set, List.length_replicate, List.length_append, List.length_map, List.length_take, List.length_cons, List.length_nil]; omega)) [wrap64]
    refine IteW.mk (fun hq => ?_) (fun hq => ?_)
    · simp -implicitDefEqProofs (disch := first | omega | (simp only [List.length_set, List.length_replicate, List.length_append, List.length_map, List.length_take, List.length_cons, List.length_nil]; omega)) [wrap64]
      refine RetK.keep (hk _ _ ⟨hl.trans hl2, ?_⟩)
      have h3 : x.findIdx? p = some i := by
        rw [List.findIdx?_eq_some_iff_getElem]
        exact ⟨hlx, hq, fun j hj => by rw [hn j (by omega) hj]; simp⟩
      rw [h3]
    · simp -implicitDefEqProofs (disch := first | omega | (simp only [List.length_set, List.length_replicate, List.length_append, List.length_map, List.length_take, List.length_cons, List.length_nil]; omega)) [wrap64]
      refine hJ _ _ hlx ⟨rfl, hl.trans hl2, fun j hj hji => ?_⟩
      by_cases hji2 : j = i
      · subst hji2; simpa using hq
      · exact hn j hj (by omega)
  · simp -implicitDefEqProofs (disch := first | omega | (simp only [List.length_set, List.length_replicate, List.length_append, List.length_map, List.length_take, List.length_cons, List.length_nil]; omega)) [wrap64]
    refine RetK.keep (hk _ _ ⟨hl, ?_⟩)
    have h3 : x.findIdx? p = none := by
      rw [List.findIdx?_eq_none_iff]
      intro y hy
      obtain ⟨j, hj, rfl⟩ := List.mem_iff_getElem.1 hy
      exact hn j hj (by omega)
    rw [h3]

theorem c_ContainsFunc_int {h : Heap} {a fv : Value} {x : List (Int)} (Ra : Rep h a x) {f : FuncId} {c1 c2 : List Value} (hf : fnOf fv = some (f, c1, c2)) (p : (Int) → Bool)
    (hp : ∀ h1, h.le h1 → ∀ (i : Nat) (hi : i < x.length) (u : Value), Rep h1 u x[i] → CallE Try.prog f (c1 ++ u :: c2) h1 (fun v h' => h1.le h' ∧ v = .bool (p x[i]))) :
    CallE Try.prog fn_slices_ContainsFunc_S_int_int [a, fv] h (fun v h' => h.le h' ∧ v = .bool (x.any p)) := by
  refine CallE.gen fun k hk => EN_slices_ContainsFunc_S_int_int rfl ?_
  simp -implicitDefEqProofs (disch := first | omega | (simp only [List.length_set, List.length_replicate, List.length_append, List.length_map, List.length_take, List.length_cons, List.length_nil]; omega)) [wrap64]
  refine (c_IndexFunc_int Ra hf p hp).go ?_
  rintro _ h1 ⟨hl, rfl⟩
  simp -implicitDefEqProofs (disch := first | omega | (simp only [List.length_set, List.length_replicate, List.length_append, List.length_map, List.length_take, List.length_cons, List.length_nil]; omega)) [wrap64]
  refine RetK.keep (hk _ _ ⟨hl, ?_⟩)
  congr 1
  rw [← List.findIdx?_isSome]
  cases x.findIdx? p <;> simp

end Go.Proofs.Ytonjglbachhdcaa
