/-
  More bodies of functions in the small language, as a program printed them.
-/
import Derived.Test.YtknkjplnngeebaaI1
namespace Go.Proofs.Ytknkjplnngeebaa
open Go
set_option linter.all false
set_option linter.defProp false
set_option maxRecDepth 1000000

def H_impl_Automaton_merge : Hint := ⟨[(0, false), (1, true), (2, true), (3, false), (4, false), (5, true), (6, false), (7, false), (8, false), (10, true), (11, true), (18, false), (19, false), (20, false), (55, false), (56, false), (57, false)], [[0, 3, 6, 7, 8, 9, 10, 14, 15, 16], [0, 1, 3, 6, 7, 9, 10, 11, 12, 13]]⟩
def K50_1 : Pl := .st (.act none (.pset none 2 0 3 (.v 18))) .done
@[simp] def W50_1 := @Pl.wpe _ _ K50_1.eq_1
def K50_2 : C := .seq (.pl <| .st (.ext 17 2) <|
    .st (.act none (.pget (some 17) none 5 0 (some 3))) <|
    .st (.act none (.ex (some 18) (.call fn_impl_Automaton_copyOf [.v 17]))) K50_1) (.ret)
@[simp] def W50_2 := @C.wpe _ _ K50_2.eq_1
def K50_3 : C := .pl <| .st (.ext 17 1) <|
    .st (.act none (.px (some 17) (.bin .add (.v 16) (.c (.int .i64 1))))) <|
    .st (.act none (.px (some 16) (.mv (.v 17)))) .done
@[simp] def W50_3 := @C.wpe _ _ K50_3.eq_1
def K50_4 : Pl := .st (.act none (.als 22 none 5)) <|
    .st (.act none (.pset (some 22) 5 2 1 (.v 21))) .done
@[simp] def W50_4 := @Pl.wpe _ _ K50_4.eq_1
def K50_5 : C := .pl <| .st (.ext 17 6) <|
    .st (.act none (.als 17 none 5)) <|
    .st (.act none (.pget (some 18) (some 17) 5 2 none)) <|
    .st (.act none (.pget (some 19) none 10 0 (some 4))) <|
    .st (.act none (.psl 20 [.int .i64 0, .int .i64 0, .int .i64 0, .int .i64 0] [(0, 4, .v 19)])) <|
    .st (.act none (.ex (some 21) (.app 32 4 [.int .i64 0, .int .i64 0, .int .i64 0, .int .i64 0] (.o (.v 18)) (.p 1 20)))) K50_4
@[simp] def W50_5 := @C.wpe _ _ K50_5.eq_1
def K50_6 : C := .seq (.pl <| .st (.ext 17 2) <|
    .st (.act none (.px (some 17) (.mv (.v 8)))) <|
    .st (.act none (.pget (some 18) none 10 0 (some 4))) <|
    .st (.act none (.ex none (.mput (.many [.i, .i, .i, .i]) (.v 17) (.v 18) (.c (.bool true))))) .done) K50_5
@[simp] def W50_6 := @C.wpe _ _ K50_6.eq_1
def K50_7 : C := .cond 17 (.v 20) K50_6 (.skip)
@[simp] def W50_7 := @C.wpe _ _ K50_7.eq_1
def K50_8 : Pl := .st (.act none (.px (some 20) (.un .not (.v 19)))) .done
@[simp] def W50_8 := @Pl.wpe _ _ K50_8.eq_1
def K50_9 : C := .seq (.pl <| .st (.ext 17 4) <|
    .st (.act none (.px (some 17) (.mv (.v 8)))) <|
    .st (.act none (.pget (some 18) none 10 0 (some 4))) <|
    .st (.act none (.ex (some 19) (.mget (.many [.i, .i, .i, .i]) (.bool false) false (.v 17) (.v 18)))) K50_8) K50_7
@[simp] def W50_9 := @C.wpe _ _ K50_9.eq_1
def K50_10 : C := .seq (.pl <| .st (.ext 17 15) <|
    .st (.act none (.px (some 17) (.mv (.v 4)))) <|
    .st (.act none (.als 18 none 9)) <|
    .st (.act none (.pget (some 19) (some 18) 9 0 none)) <|
    .st (.act none (.px (some 20) (.ia 1 (.v 17) (.v 19)))) <|
    .st (.act none (.ld (some 21) (.v 20) none)) <|
    .st (.act none (.als 22 none 9)) <|
    .st (.act none (.pget (some 23) (some 22) 9 1 none)) <|
    .st (.act none (.als 24 none 9)) <|
    .st (.act none (.pget (some 25) (some 24) 9 2 none)) <|
    .st (.act none (.px (some 26) (.mv (.v 4)))) <|
    .st (.act none (.als 27 none 9)) <|
    .st (.act none (.pget (some 28) (some 27) 9 3 none)) <|
    .st (.act none (.px (some 29) (.ia 1 (.v 26) (.v 28)))) <|
    .st (.act none (.ld (some 30) (.v 29) none)) <|
    .st (.act none (.px (some 31) (.build [.int .i64 0, .int .i64 0, .int .i64 0, .int .i64 0] [(0, 1, .v 21), (1, 1, .v 23), (2, 1, .v 25), (3, 1, .v 30)]))) <|
    .st (.act none (.pnew 10 (.c (.agg #[.int .i64 0, .int .i64 0, .int .i64 0, .int .i64 0])) [])) <|
    .st (.act none (.pset none 10 0 4 (.v 31))) .done) K50_9
@[simp] def W50_10 := @C.wpe _ _ K50_10.eq_1
def K50_11 : C := .seq (.block 3 (.seq (.pl <| .st (.ext 17 2) <|
    .st (.act none (.px (some 17) (.ia 4 (.v 14) (.v 16)))) <|
    .st (.act none (.ld (some 18) (.v 17) (some 4))) <|
    .st (.act none (.pnew 9 (.c (.agg #[.int .i64 0, .int .i64 0, .int .i64 0, .int .i64 0])) [])) <|
    .st (.act none (.pset none 9 0 4 (.v 18))) .done) K50_10)) K50_3
@[simp] def W50_11 := @C.wpe _ _ K50_11.eq_1
def K50_12 : C := .seq (.cond 17 (.v 17) (.skip) (.exit 2)) K50_11
@[simp] def W50_12 := @C.wpe _ _ K50_12.eq_1
def K50_13 : C := .seq (.pl <| .st (.ext 17 1) <|
    .st (.act none (.px (some 17) (.bin .lss (.v 16) (.v 15)))) .done) K50_12
@[simp] def W50_13 := @C.wpe _ _ K50_13.eq_1
def K50_14 : C := .block 2 (.loop 17 [0, 1, 3, 6, 7, 9, 10, 11, 12, 13] K50_13)
@[simp] def W50_14 := @C.wpe _ _ K50_14.eq_1
def K50_15 : C := .seq (.seq (.pl <| .st (.ext 17 1) <|
    .st (.act none (.als 17 none 1)) <|
    .st (.act none (.pget (some 14) (some 17) 1 2 none)) <|
    .st (.act none (.px (some 15) (.lenV (.v 14)))) <|
    .st (.act none (.px (some 16) (.mv (.c (.int .i64 0))))) .done) K50_14) K50_2
@[simp] def W50_15 := @C.wpe _ _ K50_15.eq_1
def K50_16 : Pl := .st (.act none (.px (some 8) (.mv (.v 17)))) .done
@[simp] def W50_16 := @Pl.wpe _ _ K50_16.eq_1
def K50_17 : C := .seq (.pl <| .st (.ext 17 1) <|
    .st (.act none (.ex (some 17) (.mkm))) K50_16) K50_15
@[simp] def W50_17 := @C.wpe _ _ K50_17.eq_1
def K50_18 : Pl := .st (.act none (.als 20 none 5)) <|
    .st (.act none (.pset (some 20) 5 0 1 (.v 19))) .done
@[simp] def W50_18 := @Pl.wpe _ _ K50_18.eq_1
def K50_19 : C := .seq (.pl <| .st (.ext 17 4) <|
    .st (.act none (.als 17 none 5)) <|
    .st (.act none (.pget (some 18) (some 17) 5 0 none)) <|
    .st (.act none (.ex (some 19) (.call fn_slices_Compact_S_int_int [.v 18]))) K50_18) K50_17
@[simp] def W50_19 := @C.wpe _ _ K50_19.eq_1
def K50_20 : C := .seq (.pl <| .st (.ext 17 3) <|
    .st (.act none (.als 17 none 5)) <|
    .st (.act none (.pget (some 18) (some 17) 5 0 none)) <|
    .st (.act none (.ex (some 19) (.call fn_slices_Sort_S_int_int [.v 18]))) .done) K50_19
@[simp] def W50_20 := @C.wpe _ _ K50_20.eq_1
def K50_21 : Pl := .st (.act none (.als 21 none 5)) <|
    .st (.act none (.pset (some 21) 5 0 1 (.v 20))) .done
@[simp] def W50_21 := @Pl.wpe _ _ K50_21.eq_1
def K50_22 : C := .seq (.pl <| .st (.ext 17 5) <|
    .st (.act none (.px (some 17) (.mv (.v 4)))) <|
    .st (.act none (.als 18 none 1)) <|
    .st (.act none (.pget (some 19) (some 18) 1 0 none)) <|
    .st (.act none (.ex (some 20) (.call fn_impl_picked [.v 17, .v 19]))) K50_21) K50_20
@[simp] def W50_22 := @C.wpe _ _ K50_22.eq_1
def K50_23 : C := .pl <| .st (.ext 17 1) <|
    .st (.act none (.px (some 17) (.bin .add (.v 13) (.c (.int .i64 1))))) <|
    .st (.act none (.px (some 13) (.mv (.v 17)))) .done
@[simp] def W50_23 := @C.wpe _ _ K50_23.eq_1
def K50_24 : Pl := .st (.act none (.als 26 none 5)) <|
    .st (.act none (.pset (some 26) 5 1 1 (.v 25))) .done
@[simp] def W50_24 := @Pl.wpe _ _ K50_24.eq_1
def K50_25 : C := .pl <| .st (.ext 17 10) <|
    .st (.act none (.als 17 none 5)) <|
    .st (.act none (.pget (some 18) (some 17) 5 1 none)) <|
    .st (.act none (.als 19 none 1)) <|
    .st (.act none (.pget (some 20) (some 19) 1 1 none)) <|
    .st (.act none (.px (some 21) (.mv (.v 6)))) <|
    .st (.act none (.px (some 22) (.ia 1 (.v 20) (.v 21)))) <|
    .st (.act none (.ld (some 23) (.v 22) none)) <|
    .st (.act none (.psl 24 [.bool false] [(0, 1, .v 23)])) <|
    .st (.act none (.ex (some 25) (.app 1 1 [.bool false] (.o (.v 18)) (.p 1 24)))) K50_24
@[simp] def W50_25 := @C.wpe _ _ K50_25.eq_1
def K50_26 : C := .cond 17 (.v 21) K50_25 (.skip)
@[simp] def W50_26 := @C.wpe _ _ K50_26.eq_1
def K50_27 : C := .seq (.pl <| .st (.ext 17 5) <|
    .st (.act none (.px (some 17) (.mv (.v 7)))) <|
    .st (.act none (.als 18 none 5)) <|
    .st (.act none (.pget (some 19) (some 18) 5 1 none)) <|
    .st (.act none (.px (some 20) (.lenV (.v 19)))) <|
    .st (.act none (.px (some 21) (.bin .eql (.v 17) (.v 20)))) .done) K50_26
@[simp] def W50_27 := @C.wpe _ _ K50_27.eq_1
def K50_28 : C := .seq (.block 1 (.seq (.pl <| .st (.ext 17 3) <|
    .st (.act none (.px (some 17) (.mv (.v 13)))) <|
    .st (.act none (.px (some 18) (.ia 1 (.v 11) (.v 13)))) <|
    .st (.act none (.ld (some 19) (.v 18) none)) <|
    .st (.act none (.px (some 6) (.mv (.v 17)))) <|
    .st (.act none (.px (some 7) (.mv (.v 19)))) .done) K50_27)) K50_23
@[simp] def W50_28 := @C.wpe _ _ K50_28.eq_1
def K50_29 : C := .seq (.cond 17 (.v 17) (.skip) (.exit 0)) K50_28
@[simp] def W50_29 := @C.wpe _ _ K50_29.eq_1
def K50_30 : C := .seq (.pl <| .st (.ext 17 1) <|
    .st (.act none (.px (some 17) (.bin .lss (.v 13) (.v 12)))) .done) K50_29
@[simp] def W50_30 := @C.wpe _ _ K50_30.eq_1
def K50_31 : C := .block 0 (.loop 17 [0, 3, 6, 7, 8, 9, 10, 14, 15, 16] K50_30)
@[simp] def W50_31 := @C.wpe _ _ K50_31.eq_1
def K50_32 : C := .seq (.seq (.pl <| .st (.ext 17 0) <|
    .st (.act none (.px (some 11) (.mv (.v 4)))) <|
    .st (.act none (.px (some 12) (.lenV (.v 11)))) <|
    .st (.act none (.px (some 13) (.mv (.c (.int .i64 0))))) .done) K50_31) K50_22
@[simp] def W50_32 := @C.wpe _ _ K50_32.eq_1
def K50_33 : C := .seq (.pl <| .st (.ext 17 0) <|
    .st (.act none (.pnew 5 (.c (.agg #[.slice none 0 0, .slice none 0 0, .slice none 0 0])) [])) .done) K50_32
@[simp] def W50_33 := @C.wpe _ _ K50_33.eq_1
def K50_34 : Pl := .st (.act none (.px (some 4) (.mv (.v 20)))) .done
@[simp] def W50_34 := @Pl.wpe _ _ K50_34.eq_1
def K50_35 : C := .seq (.pl <| .st (.ext 17 4) <|
    .st (.act none (.ld (some 17) (.v 3) none)) <|
    .st (.act none (.px (some 18) (.lenV (.v 17)))) <|
    .st (.act none (.px (some 19) (.mkf (.func fn_impl_Automaton_merge_1) [] [.v 3]))) <|
    .st (.act none (.ex (some 20) (.call fn_impl_grouped [.v 18, .v 19]))) K50_34) K50_33
@[simp] def W50_35 := @C.wpe _ _ K50_35.eq_1
def K50_36 : Pl := .st (.act none (.ex none (.store 1 (.v 3) (.v 18)))) .done
@[simp] def W50_36 := @Pl.wpe _ _ K50_36.eq_1
def K50_37 : Pl := .st (.act none (.ex (some 3) (.alloc (.c (.slice none 0 0))))) K50_36
@[simp] def W50_37 := @Pl.wpe _ _ K50_37.eq_1
def K50_38 : C := .seq (.pl <| .st (.ext 17 2) <|
    .st (.act none (.pget (some 17) none 1 0 (some 3))) <|
    .st (.act none (.ex (some 18) (.call fn_impl_Automaton_simulation [.v 17]))) K50_37) K50_35
@[simp] def W50_38 := @C.wpe _ _ K50_38.eq_1
def B_impl_Automaton_merge : C := .seq (.pl <| .st (.ext 17 0) <|
    .st (.act none (.pnew 1 (.v 0) [])) <|
    .st (.act none (.pnew 2 (.c (.agg #[.slice none 0 0, .slice none 0 0, .slice none 0 0])) [])) .done) K50_38
@[simp] def WB_impl_Automaton_merge := @C.wpe _ _ B_impl_Automaton_merge.eq_1
def R_impl_Automaton_merge : FIR := ⟨B_impl_Automaton_merge, 17, [(2, some (some 3))]⟩
theorem IR_impl_Automaton_merge : cfun Try.prog H_impl_Automaton_merge Try.f50 = some R_impl_Automaton_merge := by kernel_rfl
theorem EN_impl_Automaton_merge {args : List Value} {h : Heap} {k : Value → Heap → Prop} (hargs : args.length = 1) (hw : B_impl_Automaton_merge.wp Try.prog (retQ [(2, some (some 3))] k) (env0 args 17) h) : CallE Try.prog fn_impl_Automaton_merge args h k := enter Try.func50 rfl IR_impl_Automaton_merge hargs hw

def H_impl_Automaton_merge_1 : Hint := ⟨[(0, false), (1, false), (2, false), (5, false)], []⟩
def K84_1 : C := .seq (.pl <| .st (.ext 4 18) <|
    .st (.act none (.ld (some 4) (.v 2) none)) <|
    .st (.act none (.px (some 5) (.mv (.v 0)))) <|
    .st (.act none (.px (some 6) (.ia 1 (.v 4) (.v 5)))) <|
    .st (.act none (.ld (some 7) (.v 6) none)) <|
    .st (.act none (.px (some 8) (.mv (.v 1)))) <|
    .st (.act none (.px (some 9) (.bin .shr (.v 7) (.v 8)))) <|
    .st (.act none (.px (some 10) (.bin .and (.v 9) (.c (.int .u64 1))))) <|
    .st (.act none (.px (some 11) (.bin .eql (.v 10) (.c (.int .u64 1))))) <|
    .st (.act none (.px (some 12) (.mv (.v 11)))) <|
    .st (.act (some (.v 12, true)) (.ld (some 13) (.v 2) none)) <|
    .st (.act (some (.v 12, true)) (.px (some 14) (.mv (.v 1)))) <|
    .st (.act (some (.v 12, true)) (.px (some 15) (.ia 1 (.v 13) (.v 14)))) <|
    .st (.act (some (.v 12, true)) (.ld (some 16) (.v 15) none)) <|
    .st (.act (some (.v 12, true)) (.px (some 17) (.mv (.v 0)))) <|
    .st (.act (some (.v 12, true)) (.px (some 18) (.bin .shr (.v 16) (.v 17)))) <|
    .st (.act (some (.v 12, true)) (.px (some 19) (.bin .and (.v 18) (.c (.int .u64 1))))) <|
    .st (.act (some (.v 12, true)) (.px (some 20) (.bin .eql (.v 19) (.c (.int .u64 1))))) <|
    .st (.act none (.px (some 21) (.pick (.v 12) (.v 20) (.c (.bool false))))) <|
    .st (.act none (.px (some 3) (.mv (.v 21)))) .done) (.ret)
@[simp] def W84_1 := @C.wpe _ _ K84_1.eq_1
def B_impl_Automaton_merge_1 : C := .seq (.pl <| .st (.ext 4 0) <|
    .st (.act none (.px (some 3) (.mv (.c (.bool false))))) .done) K84_1
@[simp] def WB_impl_Automaton_merge_1 := @C.wpe _ _ B_impl_Automaton_merge_1.eq_1
def R_impl_Automaton_merge_1 : FIR := ⟨B_impl_Automaton_merge_1, 4, [(3, none)]⟩
theorem IR_impl_Automaton_merge_1 : cfun Try.prog H_impl_Automaton_merge_1 Try.f84 = some R_impl_Automaton_merge_1 := by kernel_rfl
theorem EN_impl_Automaton_merge_1 {args : List Value} {h : Heap} {k : Value → Heap → Prop} (hargs : args.length = 3) (hw : B_impl_Automaton_merge_1.wp Try.prog (retQ [(3, none)] k) (env0 args 4) h) : CallE Try.prog fn_impl_Automaton_merge_1 args h k := enter Try.func84 rfl IR_impl_Automaton_merge_1 hargs hw

def H_impl_Automaton_simulation : Hint := ⟨[(0, false), (1, true), (2, false), (3, false), (4, false), (6, true), (7, false), (8, false), (9, false), (10, false), (11, false), (12, false), (13, false), (14, false), (21, false), (22, false), (23, false), (27, false), (51, false), (52, false), (55, false), (56, false), (84, false), (85, false), (88, false), (89, false)], [[0, 2, 5, 6, 7, 8, 9, 10, 11, 12, 13, 17, 18, 19, 20, 21, 22, 23, 24, 25], [0, 2, 6, 7, 8, 9, 10, 11, 12, 13, 18, 19, 20, 21, 22, 23, 24, 25], [0, 2, 5, 6, 8, 9, 10, 11, 12, 13, 14, 15, 16, 17, 20, 21, 22, 23, 24, 25], [0, 2, 5, 6, 9, 10, 11, 12, 13, 14, 15, 16, 17, 22, 23, 24, 25], [0, 1, 2, 4, 5, 6, 8, 9, 12, 13, 14, 15, 16, 17, 18, 19, 20, 21, 22, 23, 24, 25], [0, 1, 2, 4, 5, 6, 8, 9, 12, 13, 14, 15, 16, 17, 18, 19, 20, 21, 24, 25], [0, 1, 2, 4, 5, 6, 8, 9, 13, 14, 15, 16, 17, 18, 19, 20, 21]]⟩
def K82_1 : C := .seq (.pl <| .st (.ext 26 1) <|
    .st (.act none (.ld (some 26) (.v 7) none)) <|
    .st (.act none (.px (some 2) (.mv (.v 26)))) .done) (.ret)
@[simp] def W82_1 := @C.wpe _ _ K82_1.eq_1
def K82_2 : C := .pl <| .st (.ext 26 1) <|
    .st (.act none (.px (some 26) (.bin .add (.v 23) (.c (.int .i64 1))))) <|
    .st (.act none (.px (some 23) (.mv (.v 26)))) .done
@[simp] def W82_2 := @C.wpe _ _ K82_2.eq_1
def K82_3 : C := .pl <| .st (.ext 26 1) <|
    .st (.act none (.px (some 26) (.bin .add (.v 25) (.c (.int .i64 1))))) <|
    .st (.act none (.px (some 25) (.mv (.v 26)))) .done
@[simp] def W82_3 := @C.wpe _ _ K82_3.eq_1
def K82_4 : C := .pl <| .st (.ext 26 0) <|
    .st (.act none (.px (some 11) (.mv (.c (.bool true))))) .done
@[simp] def W82_4 := @C.wpe _ _ K82_4.eq_1
def K82_5 : C := .seq (.pl <| .st (.ext 26 8) <|
    .st (.act none (.ld (some 26) (.v 7) none)) <|
    .st (.act none (.px (some 27) (.mv (.v 12)))) <|
    .st (.act none (.px (some 28) (.ia 1 (.v 26) (.v 27)))) <|
    .st (.act none (.ld (some 29) (.v 28) none)) <|
    .st (.act none (.px (some 30) (.mv (.v 13)))) <|
    .st (.act none (.px (some 31) (.bin .shl (.c (.int .u64 1)) (.v 30)))) <|
    .st (.act none (.px (some 32) (.bin .andNot (.v 29) (.v 31)))) <|
    .st (.act none (.px (some 33) (.ia 1 (.v 26) (.v 27)))) <|
    .st (.act none (.ex none (.store 1 (.v 33) (.v 32)))) .done) K82_4
@[simp] def W82_5 := @C.wpe _ _ K82_5.eq_1
def K82_6 : C := .cond 26 (.v 40) K82_5 (.skip)
@[simp] def W82_6 := @C.wpe _ _ K82_6.eq_1
def K82_7 : Pl := .st (.act (some (.v 34, true)) (.px (some 39) (.un .not (.v 38)))) <|
    .st (.act none (.px (some 40) (.pick (.v 34) (.v 39) (.c (.bool false))))) .done
@[simp] def W82_7 := @Pl.wpe _ _ K82_7.eq_1
def K82_8 : C := .seq (.pl <| .st (.ext 26 15) <|
    .st (.act none (.ld (some 26) (.v 7) none)) <|
    .st (.act none (.px (some 27) (.mv (.v 12)))) <|
    .st (.act none (.px (some 28) (.ia 1 (.v 26) (.v 27)))) <|
    .st (.act none (.ld (some 29) (.v 28) none)) <|
    .st (.act none (.px (some 30) (.mv (.v 13)))) <|
    .st (.act none (.px (some 31) (.bin .shr (.v 29) (.v 30)))) <|
    .st (.act none (.px (some 32) (.bin .and (.v 31) (.c (.int .u64 1))))) <|
    .st (.act none (.px (some 33) (.bin .eql (.v 32) (.c (.int .u64 1))))) <|
    .st (.act none (.px (some 34) (.mv (.v 33)))) <|
    .st (.act (some (.v 34, true)) (.px (some 35) (.mv (.v 10)))) <|
    .st (.act (some (.v 34, true)) (.px (some 36) (.mv (.v 13)))) <|
    .st (.act (some (.v 34, true)) (.px (some 37) (.mv (.v 12)))) <|
    .st (.act (some (.v 34, true)) (.ex (some 38) (.callv (.v 35) [.v 36, .v 37]))) K82_7) K82_6
@[simp] def W82_8 := @C.wpe _ _ K82_8.eq_1
def K82_9 : C := .seq (.block 13 (.seq (.pl <| .st (.ext 26 1) <|
    .st (.act none (.px (some 26) (.mv (.v 25)))) <|
    .st (.act none (.px (some 13) (.mv (.v 26)))) .done) K82_8)) K82_3
@[simp] def W82_9 := @C.wpe _ _ K82_9.eq_1
def K82_10 : C := .seq (.cond 26 (.v 26) (.skip) (.exit 12)) K82_9
@[simp] def W82_10 := @C.wpe _ _ K82_10.eq_1
def K82_11 : C := .seq (.pl <| .st (.ext 26 1) <|
    .st (.act none (.px (some 26) (.bin .lss (.v 25) (.v 24)))) .done) K82_10
@[simp] def W82_11 := @C.wpe _ _ K82_11.eq_1
def K82_12 : C := .block 12 (.loop 26 [0, 1, 2, 4, 5, 6, 8, 9, 13, 14, 15, 16, 17, 18, 19, 20, 21] K82_11)
@[simp] def W82_12 := @C.wpe _ _ K82_12.eq_1
def K82_13 : C := .seq (.pl <| .st (.ext 26 0) <|
    .st (.act none (.ld (some 24) (.v 3) none)) <|
    .st (.act none (.px (some 25) (.mv (.c (.int .i64 0))))) .done) K82_12
@[simp] def W82_13 := @C.wpe _ _ K82_13.eq_1
def K82_14 : C := .seq (.block 11 (.seq (.pl <| .st (.ext 26 1) <|
    .st (.act none (.px (some 26) (.mv (.v 23)))) <|
    .st (.act none (.px (some 12) (.mv (.v 26)))) .done) K82_13)) K82_2
@[simp] def W82_14 := @C.wpe _ _ K82_14.eq_1
def K82_15 : C := .seq (.cond 26 (.v 26) (.skip) (.exit 10)) K82_14
@[simp] def W82_15 := @C.wpe _ _ K82_15.eq_1
def K82_16 : C := .seq (.pl <| .st (.ext 26 1) <|
    .st (.act none (.px (some 26) (.bin .lss (.v 23) (.v 22)))) .done) K82_15
@[simp] def W82_16 := @C.wpe _ _ K82_16.eq_1
def K82_17 : C := .block 10 (.loop 26 [0, 1, 2, 4, 5, 6, 8, 9, 12, 13, 14, 15, 16, 17, 18, 19, 20, 21, 24, 25] K82_16)
@[simp] def W82_17 := @C.wpe _ _ K82_17.eq_1
def K82_18 : C := .seq (.pl <| .st (.ext 26 0) <|
    .st (.act none (.ld (some 22) (.v 3) none)) <|
    .st (.act none (.px (some 23) (.mv (.c (.int .i64 0))))) .done) K82_17
@[simp] def W82_18 := @C.wpe _ _ K82_18.eq_1
def K82_19 : C := .block 9 (.seq (.pl <| .st (.ext 26 0) <|
    .st (.act none (.px (some 11) (.mv (.c (.bool false))))) .done) K82_18)
@[simp] def W82_19 := @C.wpe _ _ K82_19.eq_1
def K82_20 : C := .cond 26 (.v 26) (.skip) (.exit 8)
@[simp] def W82_20 := @C.wpe _ _ K82_20.eq_1
def K82_21 : C := .seq (.seq (.pl <| .st (.ext 26 1) <|
    .st (.act none (.px (some 26) (.mv (.v 11)))) .done) K82_20) K82_19
@[simp] def W82_21 := @C.wpe _ _ K82_21.eq_1
def K82_22 : C := .block 8 (.loop 26 [0, 1, 2, 4, 5, 6, 8, 9, 12, 13, 14, 15, 16, 17, 18, 19, 20, 21, 22, 23, 24, 25] K82_21)
@[simp] def W82_22 := @C.wpe _ _ K82_22.eq_1
def K82_23 : C := .seq (.seq (.pl <| .st (.ext 26 0) <|
    .st (.act none (.px (some 11) (.mv (.c (.bool true))))) .done) K82_22) K82_1
@[simp] def W82_23 := @C.wpe _ _ K82_23.eq_1
def K82_24 : C := .seq (.pl <| .st (.ext 26 1) <|
    .st (.act none (.px (some 26) (.mkf (.func fn_impl_Automaton_simulation_1) [] [.v 3, .v 4, .v 7]))) <|
    .st (.act none (.px (some 10) (.mv (.v 26)))) .done) K82_23
@[simp] def W82_24 := @C.wpe _ _ K82_24.eq_1
def K82_25 : C := .pl <| .st (.ext 26 1) <|
    .st (.act none (.px (some 26) (.bin .add (.v 19) (.c (.int .i64 1))))) <|
    .st (.act none (.px (some 19) (.mv (.v 26)))) .done
@[simp] def W82_25 := @C.wpe _ _ K82_25.eq_1
def K82_26 : C := .pl <| .st (.ext 26 1) <|
    .st (.act none (.px (some 26) (.bin .add (.v 21) (.c (.int .i64 1))))) <|
    .st (.act none (.px (some 21) (.mv (.v 26)))) .done
@[simp] def W82_26 := @C.wpe _ _ K82_26.eq_1
def K82_27 : C := .pl <| .st (.ext 26 8) <|
    .st (.act none (.ld (some 26) (.v 7) none)) <|
    .st (.act none (.px (some 27) (.mv (.v 8)))) <|
    .st (.act none (.px (some 28) (.ia 1 (.v 26) (.v 27)))) <|
    .st (.act none (.ld (some 29) (.v 28) none)) <|
    .st (.act none (.px (some 30) (.mv (.v 9)))) <|
    .st (.act none (.px (some 31) (.bin .shl (.c (.int .u64 1)) (.v 30)))) <|
    .st (.act none (.px (some 32) (.bin .or (.v 29) (.v 31)))) <|
    .st (.act none (.px (some 33) (.ia 1 (.v 26) (.v 27)))) <|
    .st (.act none (.ex none (.store 1 (.v 33) (.v 32)))) .done
@[simp] def W82_27 := @C.wpe _ _ K82_27.eq_1
def K82_28 : C := .cond 26 (.v 38) K82_27 (.skip)
@[simp] def W82_28 := @C.wpe _ _ K82_28.eq_1
def K82_29 : C := .seq (.pl <| .st (.ext 26 13) <|
    .st (.act none (.als 26 none 1)) <|
    .st (.act none (.pget (some 27) (some 26) 1 1 none)) <|
    .st (.act none (.px (some 28) (.mv (.v 9)))) <|
    .st (.act none (.px (some 29) (.ia 1 (.v 27) (.v 28)))) <|
    .st (.act none (.ld (some 30) (.v 29) none)) <|
    .st (.act none (.px (some 31) (.mv (.v 30)))) <|
    .st (.act (some (.v 31, false)) (.als 32 none 1)) <|
    .st (.act (some (.v 31, false)) (.pget (some 33) (some 32) 1 1 none)) <|
    .st (.act (some (.v 31, false)) (.px (some 34) (.mv (.v 8)))) <|
    .st (.act (some (.v 31, false)) (.px (some 35) (.ia 1 (.v 33) (.v 34)))) <|
    .st (.act (some (.v 31, false)) (.ld (some 36) (.v 35) none)) <|
    .st (.act (some (.v 31, false)) (.px (some 37) (.un .not (.v 36)))) <|
    .st (.act none (.px (some 38) (.pick (.v 31) (.c (.bool true)) (.v 37)))) .done) K82_28
@[simp] def W82_29 := @C.wpe _ _ K82_29.eq_1
def K82_30 : C := .seq (.block 7 (.seq (.pl <| .st (.ext 26 1) <|
    .st (.act none (.px (some 26) (.mv (.v 21)))) <|
    .st (.act none (.px (some 9) (.mv (.v 26)))) .done) K82_29)) K82_26
@[simp] def W82_30 := @C.wpe _ _ K82_30.eq_1
def K82_31 : C := .seq (.cond 26 (.v 26) (.skip) (.exit 6)) K82_30
@[simp] def W82_31 := @C.wpe _ _ K82_31.eq_1
def K82_32 : C := .seq (.pl <| .st (.ext 26 1) <|
    .st (.act none (.px (some 26) (.bin .lss (.v 21) (.v 20)))) .done) K82_31
@[simp] def W82_32 := @C.wpe _ _ K82_32.eq_1
def K82_33 : C := .block 6 (.loop 26 [0, 2, 5, 6, 9, 10, 11, 12, 13, 14, 15, 16, 17, 22, 23, 24, 25] K82_32)
@[simp] def W82_33 := @C.wpe _ _ K82_33.eq_1
def K82_34 : C := .seq (.pl <| .st (.ext 26 0) <|
    .st (.act none (.ld (some 20) (.v 3) none)) <|
    .st (.act none (.px (some 21) (.mv (.c (.int .i64 0))))) .done) K82_33
@[simp] def W82_34 := @C.wpe _ _ K82_34.eq_1
def K82_35 : C := .seq (.block 5 (.seq (.pl <| .st (.ext 26 1) <|
    .st (.act none (.px (some 26) (.mv (.v 19)))) <|
    .st (.act none (.px (some 8) (.mv (.v 26)))) .done) K82_34)) K82_25
@[simp] def W82_35 := @C.wpe _ _ K82_35.eq_1
def K82_36 : C := .seq (.cond 26 (.v 26) (.skip) (.exit 4)) K82_35
@[simp] def W82_36 := @C.wpe _ _ K82_36.eq_1
def K82_37 : C := .seq (.pl <| .st (.ext 26 1) <|
    .st (.act none (.px (some 26) (.bin .lss (.v 19) (.v 18)))) .done) K82_36
@[simp] def W82_37 := @C.wpe _ _ K82_37.eq_1
def K82_38 : C := .block 4 (.loop 26 [0, 2, 5, 6, 8, 9, 10, 11, 12, 13, 14, 15, 16, 17, 20, 21, 22, 23, 24, 25] K82_37)
@[simp] def W82_38 := @C.wpe _ _ K82_38.eq_1
def K82_39 : C := .seq (.seq (.pl <| .st (.ext 26 1) <|
    .st (.act none (.ld (some 26) (.v 7) none)) <|
    .st (.act none (.px (some 18) (.lenV (.v 26)))) <|
    .st (.act none (.px (some 19) (.mv (.c (.int .i64 0))))) .done) K82_38) K82_24
@[simp] def W82_39 := @C.wpe _ _ K82_39.eq_1
def K82_40 : Pl := .st (.act none (.ex none (.store 1 (.v 7) (.v 27)))) .done
@[simp] def W82_40 := @Pl.wpe _ _ K82_40.eq_1
def K82_41 : Pl := .st (.act none (.ex (some 7) (.alloc (.c (.slice none 0 0))))) K82_40
@[simp] def W82_41 := @Pl.wpe _ _ K82_41.eq_1
def K82_42 : C := .seq (.pl <| .st (.ext 26 2) <|
    .st (.act none (.ld (some 26) (.v 3) none)) <|
    .st (.act none (.ex (some 27) (.mks 8 1 [.int .u64 0] (.v 26) (.v 26)))) K82_41) K82_39
@[simp] def W82_42 := @C.wpe _ _ K82_42.eq_1
def K82_43 : C := .pl <| .st (.ext 26 1) <|
    .st (.act none (.px (some 26) (.bin .add (.v 16) (.c (.int .i64 1))))) <|
    .st (.act none (.px (some 16) (.mv (.v 26)))) .done
@[simp] def W82_43 := @C.wpe _ _ K82_43.eq_1
def K82_44 : C := .pl <| .st (.ext 26 1) <|
    .st (.act none (.px (some 26) (.bin .add (.v 17) (.c (.int .i64 1))))) <|
    .st (.act none (.px (some 17) (.mv (.v 26)))) .done
@[simp] def W82_44 := @C.wpe _ _ K82_44.eq_1
def K82_45 : C := .pl <| .st (.ext 26 13) <|
    .st (.act none (.ld (some 26) (.v 4) none)) <|
    .st (.act none (.als 27 none 5)) <|
    .st (.act none (.pget (some 28) (some 27) 5 0 none)) <|
    .st (.act none (.px (some 29) (.mv (.v 6)))) <|
    .st (.act none (.px (some 30) (.ia 8 (.v 26) (.v 28)))) <|
    .st (.act none (.px (some 31) (.iaA 8 1 (.v 30) (.v 29)))) <|
    .st (.act none (.ld (some 32) (.v 31) none)) <|
    .st (.act none (.als 33 none 5)) <|
    .st (.act none (.pget (some 34) (some 33) 5 3 none)) <|
    .st (.act none (.px (some 35) (.bin .shl (.c (.int .u64 1)) (.v 34)))) <|
    .st (.act none (.px (some 36) (.bin .or (.v 32) (.v 35)))) <|
    .st (.act none (.px (some 37) (.ia 8 (.v 26) (.v 28)))) <|
    .st (.act none (.px (some 38) (.iaA 8 1 (.v 37) (.v 29)))) <|
    .st (.act none (.ex none (.store 1 (.v 38) (.v 36)))) .done
@[simp] def W82_45 := @C.wpe _ _ K82_45.eq_1
def K82_46 : C := .cond 26 (.v 28) K82_45 (.skip)
@[simp] def W82_46 := @C.wpe _ _ K82_46.eq_1
def K82_47 : C := .seq (.pl <| .st (.ext 26 3) <|
    .st (.act none (.pget (some 26) none 5 0 (some 4))) <|
    .st (.act none (.px (some 27) (.mv (.v 6)))) <|
    .st (.act none (.ex (some 28) (.call fn_impl_Transition_takes [.v 26, .v 27]))) .done) K82_46
@[simp] def W82_47 := @C.wpe _ _ K82_47.eq_1
def K82_48 : C := .seq (.block 3 (.seq (.pl <| .st (.ext 26 1) <|
    .st (.act none (.px (some 26) (.mv (.v 17)))) <|
    .st (.act none (.px (some 6) (.mv (.v 26)))) .done) K82_47)) K82_44
@[simp] def W82_48 := @C.wpe _ _ K82_48.eq_1
def K82_49 : C := .seq (.cond 26 (.v 26) (.skip) (.exit 2)) K82_48
@[simp] def W82_49 := @C.wpe _ _ K82_49.eq_1
def K82_50 : C := .seq (.pl <| .st (.ext 26 1) <|
    .st (.act none (.px (some 26) (.bin .lss (.v 17) (.c (.int .i64 8))))) .done) K82_49
@[simp] def W82_50 := @C.wpe _ _ K82_50.eq_1
def K82_51 : C := .block 2 (.loop 26 [0, 2, 6, 7, 8, 9, 10, 11, 12, 13, 18, 19, 20, 21, 22, 23, 24, 25] K82_50)
@[simp] def W82_51 := @C.wpe _ _ K82_51.eq_1
def K82_52 : C := .seq (.pl <| .st (.ext 26 0) <|
    .st (.act none (.px (some 17) (.mv (.c (.int .i64 0))))) .done) K82_51
@[simp] def W82_52 := @C.wpe _ _ K82_52.eq_1
def K82_53 : C := .seq (.block 1 (.seq (.pl <| .st (.ext 26 2) <|
    .st (.act none (.px (some 26) (.ia 4 (.v 14) (.v 16)))) <|
    .st (.act none (.ld (some 27) (.v 26) (some 4))) <|
    .st (.act none (.pnew 5 (.c (.agg #[.int .i64 0, .int .i64 0, .int .i64 0, .int .i64 0])) [])) <|
    .st (.act none (.pset none 5 0 4 (.v 27))) .done) K82_52)) K82_43
@[simp] def W82_53 := @C.wpe _ _ K82_53.eq_1
def K82_54 : C := .seq (.cond 26 (.v 26) (.skip) (.exit 0)) K82_53
@[simp] def W82_54 := @C.wpe _ _ K82_54.eq_1
def K82_55 : C := .seq (.pl <| .st (.ext 26 1) <|
    .st (.act none (.px (some 26) (.bin .lss (.v 16) (.v 15)))) .done) K82_54
@[simp] def W82_55 := @C.wpe _ _ K82_55.eq_1
def K82_56 : C := .block 0 (.loop 26 [0, 2, 5, 6, 7, 8, 9, 10, 11, 12, 13, 17, 18, 19, 20, 21, 22, 23, 24, 25] K82_55)
@[simp] def W82_56 := @C.wpe _ _ K82_56.eq_1
def K82_57 : C := .seq (.seq (.pl <| .st (.ext 26 1) <|
    .st (.act none (.als 26 none 1)) <|
    .st (.act none (.pget (some 14) (some 26) 1 2 none)) <|
    .st (.act none (.px (some 15) (.lenV (.v 14)))) <|
    .st (.act none (.px (some 16) (.mv (.c (.int .i64 0))))) .done) K82_56) K82_42
@[simp] def W82_57 := @C.wpe _ _ K82_57.eq_1
def K82_58 : Pl := .st (.act none (.ex none (.store 1 (.v 4) (.v 27)))) .done
@[simp] def W82_58 := @Pl.wpe _ _ K82_58.eq_1
def K82_59 : Pl := .st (.act none (.ex (some 4) (.alloc (.c (.slice none 0 0))))) K82_58
@[simp] def W82_59 := @Pl.wpe _ _ K82_59.eq_1
def K82_60 : C := .seq (.pl <| .st (.ext 26 2) <|
    .st (.act none (.ld (some 26) (.v 3) none)) <|
    .st (.act none (.ex (some 27) (.mks 64 8 [.int .u64 0, .int .u64 0, .int .u64 0, .int .u64 0, .int .u64 0, .int .u64 0, .int .u64 0, .int .u64 0] (.v 26) (.v 26)))) K82_59) K82_57
@[simp] def W82_60 := @C.wpe _ _ K82_60.eq_1
def K82_61 : Pl := .st (.act none (.ex none (.store 1 (.v 3) (.v 28)))) .done
@[simp] def W82_61 := @Pl.wpe _ _ K82_61.eq_1
def K82_62 : C := .seq (.pl <| .st (.ext 26 3) <|
    .st (.act none (.als 26 none 1)) <|
    .st (.act none (.pget (some 27) (some 26) 1 1 none)) <|
    .st (.act none (.px (some 28) (.lenV (.v 27)))) <|
    .st (.act none (.ex (some 3) (.alloc (.c (.int .i64 0))))) K82_61) K82_60
@[simp] def W82_62 := @C.wpe _ _ K82_62.eq_1
def B_impl_Automaton_simulation : C := .seq (.pl <| .st (.ext 26 0) <|
    .st (.act none (.pnew 1 (.v 0) [])) <|
    .st (.act none (.px (some 2) (.mv (.c (.slice none 0 0))))) .done) K82_62
@[simp] def WB_impl_Automaton_simulation := @C.wpe _ _ B_impl_Automaton_simulation.eq_1
def R_impl_Automaton_simulation : FIR := ⟨B_impl_Automaton_simulation, 26, [(2, none)]⟩
theorem IR_impl_Automaton_simulation : cfun Try.prog H_impl_Automaton_simulation Try.f82 = some R_impl_Automaton_simulation := by kernel_rfl
theorem EN_impl_Automaton_simulation {args : List Value} {h : Heap} {k : Value → Heap → Prop} (hargs : args.length = 1) (hw : B_impl_Automaton_simulation.wp Try.prog (retQ [(2, none)] k) (env0 args 26) h) : CallE Try.prog fn_impl_Automaton_simulation args h k := enter Try.func82 rfl IR_impl_Automaton_simulation hargs hw

def H_impl_Automaton_simulation_1 : Hint := ⟨[(0, false), (1, false), (2, false), (3, false), (4, false), (7, false), (8, false), (9, false), (10, false), (13, false), (14, false)], [[5, 6, 7, 9, 10], [5, 7]]⟩
def K110_1 : C := .seq (.pl <| .st (.ext 11 0) <|
    .st (.act none (.px (some 5) (.mv (.c (.bool true))))) .done) (.ret)
@[simp] def W110_1 := @C.wpe _ _ K110_1.eq_1
def K110_2 : C := .pl <| .st (.ext 11 1) <|
    .st (.act none (.px (some 11) (.bin .add (.v 8) (.c (.int .i64 1))))) <|
    .st (.act none (.px (some 8) (.mv (.v 11)))) .done
@[simp] def W110_2 := @C.wpe _ _ K110_2.eq_1
def K110_3 : C := .pl <| .st (.ext 11 1) <|
    .st (.act none (.px (some 11) (.bin .add (.v 10) (.c (.int .i64 1))))) <|
    .st (.act none (.px (some 10) (.mv (.v 11)))) .done
@[simp] def W110_3 := @C.wpe _ _ K110_3.eq_1
def K110_4 : C := .seq (.pl <| .st (.ext 11 0) <|
    .st (.act none (.px (some 5) (.mv (.c (.bool false))))) .done) (.ret)
@[simp] def W110_4 := @C.wpe _ _ K110_4.eq_1
def K110_5 : C := .cond 11 (.v 34) K110_4 (.skip)
@[simp] def W110_5 := @C.wpe _ _ K110_5.eq_1
def K110_6 : C := .seq (.pl <| .st (.ext 11 24) <|
    .st (.act none (.ld (some 11) (.v 3) none)) <|
    .st (.act none (.px (some 12) (.mv (.v 1)))) <|
    .st (.act none (.px (some 13) (.mv (.v 6)))) <|
    .st (.act none (.px (some 14) (.ia 8 (.v 11) (.v 12)))) <|
    .st (.act none (.px (some 15) (.iaA 8 1 (.v 14) (.v 13)))) <|
    .st (.act none (.ld (some 16) (.v 15) none)) <|
    .st (.act none (.px (some 17) (.mv (.v 7)))) <|
    .st (.act none (.px (some 18) (.bin .shr (.v 16) (.v 17)))) <|
    .st (.act none (.px (some 19) (.bin .and (.v 18) (.c (.int .u64 1))))) <|
    .st (.act none (.px (some 20) (.bin .eql (.v 19) (.c (.int .u64 1))))) <|
    .st (.act none (.px (some 21) (.mv (.v 20)))) <|
    .st (.act (some (.v 21, true)) (.ld (some 22) (.v 3) none)) <|
    .st (.act (some (.v 21, true)) (.px (some 23) (.mv (.v 0)))) <|
    .st (.act (some (.v 21, true)) (.px (some 24) (.mv (.v 6)))) <|
    .st (.act (some (.v 21, true)) (.px (some 25) (.ia 8 (.v 22) (.v 23)))) <|
    .st (.act (some (.v 21, true)) (.px (some 26) (.iaA 8 1 (.v 25) (.v 24)))) <|
    .st (.act (some (.v 21, true)) (.ld (some 27) (.v 26) none)) <|
    .st (.act (some (.v 21, true)) (.ld (some 28) (.v 4) none)) <|
    .st (.act (some (.v 21, true)) (.px (some 29) (.mv (.v 7)))) <|
    .st (.act (some (.v 21, true)) (.px (some 30) (.ia 1 (.v 28) (.v 29)))) <|
    .st (.act (some (.v 21, true)) (.ld (some 31) (.v 30) none)) <|
    .st (.act (some (.v 21, true)) (.px (some 32) (.bin .and (.v 27) (.v 31)))) <|
    .st (.act (some (.v 21, true)) (.px (some 33) (.bin .eql (.v 32) (.c (.int .u64 0))))) <|
    .st (.act none (.px (some 34) (.pick (.v 21) (.v 33) (.c (.bool false))))) .done) K110_5
@[simp] def W110_6 := @C.wpe _ _ K110_6.eq_1
def K110_7 : C := .seq (.block 3 (.seq (.pl <| .st (.ext 11 1) <|
    .st (.act none (.px (some 11) (.mv (.v 10)))) <|
    .st (.act none (.px (some 7) (.mv (.v 11)))) .done) K110_6)) K110_3
@[simp] def W110_7 := @C.wpe _ _ K110_7.eq_1
def K110_8 : C := .seq (.cond 11 (.v 11) (.skip) (.exit 2)) K110_7
@[simp] def W110_8 := @C.wpe _ _ K110_8.eq_1
def K110_9 : C := .seq (.pl <| .st (.ext 11 1) <|
    .st (.act none (.px (some 11) (.bin .lss (.v 10) (.v 9)))) .done) K110_8
@[simp] def W110_9 := @C.wpe _ _ K110_9.eq_1
def K110_10 : C := .block 2 (.loop 11 [5, 7] K110_9)
@[simp] def W110_10 := @C.wpe _ _ K110_10.eq_1
def K110_11 : C := .seq (.pl <| .st (.ext 11 0) <|
    .st (.act none (.ld (some 9) (.v 2) none)) <|
    .st (.act none (.px (some 10) (.mv (.c (.int .i64 0))))) .done) K110_10
@[simp] def W110_11 := @C.wpe _ _ K110_11.eq_1
def K110_12 : C := .seq (.block 1 (.seq (.pl <| .st (.ext 11 1) <|
    .st (.act none (.px (some 11) (.mv (.v 8)))) <|
    .st (.act none (.px (some 6) (.mv (.v 11)))) .done) K110_11)) K110_2
@[simp] def W110_12 := @C.wpe _ _ K110_12.eq_1
def K110_13 : C := .seq (.cond 11 (.v 11) (.skip) (.exit 0)) K110_12
@[simp] def W110_13 := @C.wpe _ _ K110_13.eq_1
def K110_14 : C := .seq (.pl <| .st (.ext 11 1) <|
    .st (.act none (.px (some 11) (.bin .lss (.v 8) (.c (.int .i64 8))))) .done) K110_13
@[simp] def W110_14 := @C.wpe _ _ K110_14.eq_1
def K110_15 : C := .block 0 (.loop 11 [5, 6, 7, 9, 10] K110_14)
@[simp] def W110_15 := @C.wpe _ _ K110_15.eq_1
def K110_16 : C := .seq (.seq (.pl <| .st (.ext 11 0) <|
    .st (.act none (.px (some 8) (.mv (.c (.int .i64 0))))) .done) K110_15) K110_1
@[simp] def W110_16 := @C.wpe _ _ K110_16.eq_1
def B_impl_Automaton_simulation_1 : C := .seq (.pl <| .st (.ext 11 0) <|
    .st (.act none (.px (some 5) (.mv (.c (.bool false))))) .done) K110_16
@[simp] def WB_impl_Automaton_simulation_1 := @C.wpe _ _ B_impl_Automaton_simulation_1.eq_1
def R_impl_Automaton_simulation_1 : FIR := ⟨B_impl_Automaton_simulation_1, 11, [(5, none)]⟩
theorem IR_impl_Automaton_simulation_1 : cfun Try.prog H_impl_Automaton_simulation_1 Try.f110 = some R_impl_Automaton_simulation_1 := by kernel_rfl
theorem EN_impl_Automaton_simulation_1 {args : List Value} {h : Heap} {k : Value → Heap → Prop} (hargs : args.length = 5) (hw : B_impl_Automaton_simulation_1.wp Try.prog (retQ [(5, none)] k) (env0 args 11) h) : CallE Try.prog fn_impl_Automaton_simulation_1 args h k := enter Try.func110 rfl IR_impl_Automaton_simulation_1 hargs hw

def H_impl_MergeStates : Hint := ⟨[(0, false), (1, true), (2, true), (3, false)], []⟩
def K22_1 : Pl := .st (.act none (.pset none 2 0 3 (.v 5))) <|
    .st (.act none (.px (some 3) (.mv (.c (.bool true))))) .done
@[simp] def W22_1 := @Pl.wpe _ _ K22_1.eq_1
def K22_2 : C := .seq (.pl <| .st (.ext 4 2) <|
    .st (.act none (.pget (some 4) none 1 0 (some 3))) <|
    .st (.act none (.ex (some 5) (.call fn_impl_Automaton_merge [.v 4]))) K22_1) (.ret)
@[simp] def W22_2 := @C.wpe _ _ K22_2.eq_1
def K22_3 : C := .seq (.pl <| .st (.ext 4 1) <|
    .st (.act none (.px (some 4) (.build [.slice none 0 0, .slice none 0 0, .slice none 0 0] []))) <|
    .st (.act none (.pset none 2 0 3 (.v 4))) <|
    .st (.act none (.px (some 3) (.mv (.c (.bool false))))) .done) (.ret)
@[simp] def W22_3 := @C.wpe _ _ K22_3.eq_1
def K22_4 : C := .cond 4 (.v 6) K22_3 (.skip)
@[simp] def W22_4 := @C.wpe _ _ K22_4.eq_1
def K22_5 : Pl := .st (.act none (.px (some 6) (.un .not (.v 5)))) .done
@[simp] def W22_5 := @Pl.wpe _ _ K22_5.eq_1
def K22_6 : C := .seq (.seq (.pl <| .st (.ext 4 3) <|
    .st (.act none (.pget (some 4) none 1 0 (some 3))) <|
    .st (.act none (.ex (some 5) (.call fn_impl_AutomatonValid [.v 4]))) K22_5) K22_4) K22_2
@[simp] def W22_6 := @C.wpe _ _ K22_6.eq_1
def B_impl_MergeStates : C := .seq (.pl <| .st (.ext 4 0) <|
    .st (.act none (.pnew 1 (.v 0) [])) <|
    .st (.act none (.pnew 2 (.c (.agg #[.slice none 0 0, .slice none 0 0, .slice none 0 0])) [])) <|
    .st (.act none (.px (some 3) (.mv (.c (.bool false))))) .done) K22_6
@[simp] def WB_impl_MergeStates := @C.wpe _ _ B_impl_MergeStates.eq_1
def R_impl_MergeStates : FIR := ⟨B_impl_MergeStates, 4, [(2, some (some 3)), (3, none)]⟩
theorem IR_impl_MergeStates : cfun Try.prog H_impl_MergeStates Try.f22 = some R_impl_MergeStates := by kernel_rfl
theorem EN_impl_MergeStates {args : List Value} {h : Heap} {k : Value → Heap → Prop} (hargs : args.length = 1) (hw : B_impl_MergeStates.wp Try.prog (retQ [(2, some (some 3)), (3, none)] k) (env0 args 4) h) : CallE Try.prog fn_impl_MergeStates args h k := enter Try.func22 rfl IR_impl_MergeStates hargs hw

def H_impl_Transition_takes : Hint := ⟨[(0, false), (1, false), (2, true), (4, false)], []⟩
def K107_1 : C := .seq (.pl <| .st (.ext 4 7) <|
    .st (.act none (.px (some 4) (.mv (.v 1)))) <|
    .st (.act none (.als 5 none 2)) <|
    .st (.act none (.pget (some 6) (some 5) 2 1 none)) <|
    .st (.act none (.px (some 7) (.bin .and (.v 4) (.v 6)))) <|
    .st (.act none (.als 8 none 2)) <|
    .st (.act none (.pget (some 9) (some 8) 2 2 none)) <|
    .st (.act none (.px (some 10) (.bin .eql (.v 7) (.v 9)))) <|
    .st (.act none (.px (some 3) (.mv (.v 10)))) .done) (.ret)
@[simp] def W107_1 := @C.wpe _ _ K107_1.eq_1
def B_impl_Transition_takes : C := .seq (.pl <| .st (.ext 4 0) <|
    .st (.act none (.pnew 2 (.v 0) [])) <|
    .st (.act none (.px (some 3) (.mv (.c (.bool false))))) .done) K107_1
@[simp] def WB_impl_Transition_takes := @C.wpe _ _ B_impl_Transition_takes.eq_1
def R_impl_Transition_takes : FIR := ⟨B_impl_Transition_takes, 4, [(3, none)]⟩
theorem IR_impl_Transition_takes : cfun Try.prog H_impl_Transition_takes Try.f107 = some R_impl_Transition_takes := by kernel_rfl
theorem EN_impl_Transition_takes {args : List Value} {h : Heap} {k : Value → Heap → Prop} (hargs : args.length = 2) (hw : B_impl_Transition_takes.wp Try.prog (retQ [(3, none)] k) (env0 args 4) h) : CallE Try.prog fn_impl_Transition_takes args h k := enter Try.func107 rfl IR_impl_Transition_takes hargs hw

def H_impl_grouped : Hint := ⟨[(0, false), (1, false), (4, false), (5, false), (6, false), (7, false), (8, false), (12, false), (13, false), (20, false), (21, false)], [[0, 2, 5, 6, 9, 10], [0, 2, 6]]⟩
def K83_1 : C := .seq (.pl <| .st (.ext 11 1) <|
    .st (.act none (.px (some 11) (.mv (.v 3)))) <|
    .st (.act none (.px (some 2) (.mv (.v 11)))) .done) (.ret)
@[simp] def W83_1 := @C.wpe _ _ K83_1.eq_1
def K83_2 : C := .pl <| .st (.ext 11 1) <|
    .st (.act none (.px (some 11) (.bin .add (.v 8) (.c (.int .i64 1))))) <|
    .st (.act none (.px (some 8) (.mv (.v 11)))) .done
@[simp] def W83_2 := @C.wpe _ _ K83_2.eq_1
def K83_3 : C := .pl <| .st (.ext 11 2) <|
    .st (.act none (.px (some 11) (.mv (.v 4)))) <|
    .st (.act none (.px (some 12) (.bin .add (.v 11) (.c (.int .i64 1))))) <|
    .st (.act none (.px (some 4) (.mv (.v 12)))) .done
@[simp] def W83_3 := @C.wpe _ _ K83_3.eq_1
def K83_4 : C := .cond 11 (.v 16) K83_3 (.skip)
@[simp] def W83_4 := @C.wpe _ _ K83_4.eq_1
def K83_5 : C := .seq (.pl <| .st (.ext 11 6) <|
    .st (.act none (.px (some 11) (.mv (.v 3)))) <|
    .st (.act none (.px (some 12) (.mv (.v 5)))) <|
    .st (.act none (.px (some 13) (.ia 1 (.v 11) (.v 12)))) <|
    .st (.act none (.ld (some 14) (.v 13) none)) <|
    .st (.act none (.px (some 15) (.mv (.v 4)))) <|
    .st (.act none (.px (some 16) (.bin .eql (.v 14) (.v 15)))) .done) K83_4
@[simp] def W83_5 := @C.wpe _ _ K83_5.eq_1
def K83_6 : C := .pl <| .st (.ext 11 1) <|
    .st (.act none (.px (some 11) (.bin .add (.v 10) (.c (.int .i64 1))))) <|
    .st (.act none (.px (some 10) (.mv (.v 11)))) .done
@[simp] def W83_6 := @C.wpe _ _ K83_6.eq_1
def K83_7 : C := .seq (.pl <| .st (.ext 11 7) <|
    .st (.act none (.px (some 11) (.mv (.v 3)))) <|
    .st (.act none (.px (some 12) (.mv (.v 5)))) <|
    .st (.act none (.px (some 13) (.mv (.v 3)))) <|
    .st (.act none (.px (some 14) (.mv (.v 6)))) <|
    .st (.act none (.px (some 15) (.ia 1 (.v 13) (.v 14)))) <|
    .st (.act none (.ld (some 16) (.v 15) none)) <|
    .st (.act none (.px (some 17) (.ia 1 (.v 11) (.v 12)))) <|
    .st (.act none (.ex none (.store 1 (.v 17) (.v 16)))) .done) (.exit 2)
@[simp] def W83_7 := @C.wpe _ _ K83_7.eq_1
def K83_8 : C := .cond 11 (.v 14) K83_7 (.skip)
@[simp] def W83_8 := @C.wpe _ _ K83_8.eq_1
def K83_9 : C := .seq (.pl <| .st (.ext 11 4) <|
    .st (.act none (.px (some 11) (.mv (.v 1)))) <|
    .st (.act none (.px (some 12) (.mv (.v 5)))) <|
    .st (.act none (.px (some 13) (.mv (.v 6)))) <|
    .st (.act none (.ex (some 14) (.callv (.v 11) [.v 12, .v 13]))) .done) K83_8
@[simp] def W83_9 := @C.wpe _ _ K83_9.eq_1
def K83_10 : C := .seq (.block 3 (.seq (.pl <| .st (.ext 11 1) <|
    .st (.act none (.px (some 11) (.mv (.v 10)))) <|
    .st (.act none (.px (some 6) (.mv (.v 11)))) .done) K83_9)) K83_6
@[simp] def W83_10 := @C.wpe _ _ K83_10.eq_1
def K83_11 : C := .seq (.cond 11 (.v 11) (.skip) (.exit 2)) K83_10
@[simp] def W83_11 := @C.wpe _ _ K83_11.eq_1
def K83_12 : C := .seq (.pl <| .st (.ext 11 1) <|
    .st (.act none (.px (some 11) (.bin .lss (.v 10) (.v 9)))) .done) K83_11
@[simp] def W83_12 := @C.wpe _ _ K83_12.eq_1
def K83_13 : C := .block 2 (.loop 11 [0, 2, 6] K83_12)
@[simp] def W83_13 := @C.wpe _ _ K83_13.eq_1
def K83_14 : C := .seq (.seq (.pl <| .st (.ext 11 0) <|
    .st (.act none (.px (some 9) (.mv (.v 5)))) <|
    .st (.act none (.px (some 10) (.mv (.c (.int .i64 0))))) .done) K83_13) K83_5
@[simp] def W83_14 := @C.wpe _ _ K83_14.eq_1
def K83_15 : C := .seq (.pl <| .st (.ext 11 4) <|
    .st (.act none (.px (some 11) (.mv (.v 3)))) <|
    .st (.act none (.px (some 12) (.mv (.v 5)))) <|
    .st (.act none (.px (some 13) (.mv (.v 4)))) <|
    .st (.act none (.px (some 14) (.ia 1 (.v 11) (.v 12)))) <|
    .st (.act none (.ex none (.store 1 (.v 14) (.v 13)))) .done) K83_14
@[simp] def W83_15 := @C.wpe _ _ K83_15.eq_1
def K83_16 : C := .seq (.block 1 (.seq (.pl <| .st (.ext 11 1) <|
    .st (.act none (.px (some 11) (.mv (.v 8)))) <|
    .st (.act none (.px (some 5) (.mv (.v 11)))) .done) K83_15)) K83_2
@[simp] def W83_16 := @C.wpe _ _ K83_16.eq_1
def K83_17 : C := .seq (.cond 11 (.v 11) (.skip) (.exit 0)) K83_16
@[simp] def W83_17 := @C.wpe _ _ K83_17.eq_1
def K83_18 : C := .seq (.pl <| .st (.ext 11 1) <|
    .st (.act none (.px (some 11) (.bin .lss (.v 8) (.v 7)))) .done) K83_17
@[simp] def W83_18 := @C.wpe _ _ K83_18.eq_1
def K83_19 : C := .block 0 (.loop 11 [0, 2, 5, 6, 9, 10] K83_18)
@[simp] def W83_19 := @C.wpe _ _ K83_19.eq_1
def K83_20 : C := .seq (.seq (.pl <| .st (.ext 11 1) <|
    .st (.act none (.px (some 11) (.mv (.v 3)))) <|
    .st (.act none (.px (some 7) (.lenV (.v 11)))) <|
    .st (.act none (.px (some 8) (.mv (.c (.int .i64 0))))) .done) K83_19) K83_1
@[simp] def W83_20 := @C.wpe _ _ K83_20.eq_1
def K83_21 : C := .seq (.pl <| .st (.ext 11 0) <|
    .st (.act none (.px (some 4) (.mv (.c (.int .i64 0))))) .done) K83_20
@[simp] def W83_21 := @C.wpe _ _ K83_21.eq_1
def K83_22 : Pl := .st (.act none (.px (some 3) (.mv (.v 12)))) .done
@[simp] def W83_22 := @Pl.wpe _ _ K83_22.eq_1
def K83_23 : C := .seq (.pl <| .st (.ext 11 2) <|
    .st (.act none (.px (some 11) (.mv (.v 0)))) <|
    .st (.act none (.ex (some 12) (.mks 8 1 [.int .i64 0] (.v 11) (.v 11)))) K83_22) K83_21
@[simp] def W83_23 := @C.wpe _ _ K83_23.eq_1
def B_impl_grouped : C := .seq (.pl <| .st (.ext 11 0) <|
    .st (.act none (.px (some 2) (.mv (.c (.slice none 0 0))))) .done) K83_23
@[simp] def WB_impl_grouped := @C.wpe _ _ B_impl_grouped.eq_1
def R_impl_grouped : FIR := ⟨B_impl_grouped, 11, [(2, none)]⟩
theorem IR_impl_grouped : cfun Try.prog H_impl_grouped Try.f83 = some R_impl_grouped := by kernel_rfl
theorem EN_impl_grouped {args : List Value} {h : Heap} {k : Value → Heap → Prop} (hargs : args.length = 2) (hw : B_impl_grouped.wp Try.prog (retQ [(2, none)] k) (env0 args 11) h) : CallE Try.prog fn_impl_grouped args h k := enter Try.func83 rfl IR_impl_grouped hargs hw

def H_impl_picked : Hint := ⟨[(0, false), (1, false), (4, false), (5, false), (6, false), (7, false), (11, false), (12, false), (13, false)], [[1, 2, 4, 5]]⟩
def K85_1 : C := .seq (.pl <| .st (.ext 9 1) <|
    .st (.act none (.px (some 9) (.mv (.v 3)))) <|
    .st (.act none (.px (some 2) (.mv (.v 9)))) .done) (.ret)
@[simp] def W85_1 := @C.wpe _ _ K85_1.eq_1
def K85_2 : C := .pl <| .st (.ext 9 1) <|
    .st (.act none (.px (some 9) (.bin .add (.v 8) (.c (.int .i64 1))))) <|
    .st (.act none (.px (some 8) (.mv (.v 9)))) .done
@[simp] def W85_2 := @C.wpe _ _ K85_2.eq_1
def K85_3 : C := .pl <| .st (.ext 9 7) <|
    .st (.act none (.px (some 9) (.mv (.v 3)))) <|
    .st (.act none (.px (some 10) (.mv (.v 4)))) <|
    .st (.act none (.px (some 11) (.mv (.v 0)))) <|
    .st (.act none (.px (some 12) (.mv (.v 5)))) <|
    .st (.act none (.px (some 13) (.ia 1 (.v 11) (.v 12)))) <|
    .st (.act none (.ld (some 14) (.v 13) none)) <|
    .st (.act none (.px (some 15) (.ia 1 (.v 9) (.v 10)))) <|
    .st (.act none (.ex none (.store 1 (.v 15) (.v 14)))) .done
@[simp] def W85_3 := @C.wpe _ _ K85_3.eq_1
def K85_4 : C := .seq (.block 1 (.seq (.pl <| .st (.ext 9 3) <|
    .st (.act none (.px (some 9) (.mv (.v 8)))) <|
    .st (.act none (.px (some 10) (.ia 1 (.v 6) (.v 8)))) <|
    .st (.act none (.ld (some 11) (.v 10) none)) <|
    .st (.act none (.px (some 4) (.mv (.v 9)))) <|
    .st (.act none (.px (some 5) (.mv (.v 11)))) .done) K85_3)) K85_2
@[simp] def W85_4 := @C.wpe _ _ K85_4.eq_1
def K85_5 : C := .seq (.cond 9 (.v 9) (.skip) (.exit 0)) K85_4
@[simp] def W85_5 := @C.wpe _ _ K85_5.eq_1
def K85_6 : C := .seq (.pl <| .st (.ext 9 1) <|
    .st (.act none (.px (some 9) (.bin .lss (.v 8) (.v 7)))) .done) K85_5
@[simp] def W85_6 := @C.wpe _ _ K85_6.eq_1
def K85_7 : C := .block 0 (.loop 9 [1, 2, 4, 5] K85_6)
@[simp] def W85_7 := @C.wpe _ _ K85_7.eq_1
def K85_8 : C := .seq (.seq (.pl <| .st (.ext 9 0) <|
    .st (.act none (.px (some 6) (.mv (.v 1)))) <|
    .st (.act none (.px (some 7) (.lenV (.v 6)))) <|
    .st (.act none (.px (some 8) (.mv (.c (.int .i64 0))))) .done) K85_7) K85_1
@[simp] def W85_8 := @C.wpe _ _ K85_8.eq_1
def K85_9 : Pl := .st (.act none (.px (some 3) (.mv (.v 11)))) .done
@[simp] def W85_9 := @Pl.wpe _ _ K85_9.eq_1
def K85_10 : C := .seq (.pl <| .st (.ext 9 3) <|
    .st (.act none (.px (some 9) (.mv (.v 1)))) <|
    .st (.act none (.px (some 10) (.lenV (.v 9)))) <|
    .st (.act none (.ex (some 11) (.mks 8 1 [.int .i64 0] (.v 10) (.v 10)))) K85_9) K85_8
@[simp] def W85_10 := @C.wpe _ _ K85_10.eq_1
def B_impl_picked : C := .seq (.pl <| .st (.ext 9 0) <|
    .st (.act none (.px (some 2) (.mv (.c (.slice none 0 0))))) .done) K85_10
@[simp] def WB_impl_picked := @C.wpe _ _ B_impl_picked.eq_1
def R_impl_picked : FIR := ⟨B_impl_picked, 9, [(2, none)]⟩
theorem IR_impl_picked : cfun Try.prog H_impl_picked Try.f85 = some R_impl_picked := by kernel_rfl
theorem EN_impl_picked {args : List Value} {h : Heap} {k : Value → Heap → Prop} (hargs : args.length = 2) (hw : B_impl_picked.wp Try.prog (retQ [(2, none)] k) (env0 args 9) h) : CallE Try.prog fn_impl_picked args h k := enter Try.func85 rfl IR_impl_picked hargs hw

def H_laws_FnExactMergeStates : Hint := ⟨[(0, false), (1, true), (2, false), (3, false), (4, true), (5, false), (6, true), (7, true), (8, false), (9, false), (10, false), (11, false), (12, true), (13, false)], []⟩
def K5_1 : C := .seq (.pl <| .st (.ext 14 0) <|
    .st (.act none (.px (some 2) (.mv (.c (.bool true))))) .done) (.ret)
@[simp] def W5_1 := @C.wpe _ _ K5_1.eq_1
def K5_2 : C := .seq (.pl <| .st (.ext 14 0) <|
    .st (.act none (.px (some 2) (.mv (.c (.bool false))))) .done) (.ret)
@[simp] def W5_2 := @C.wpe _ _ K5_2.eq_1
def K5_3 : C := .cond 14 (.v 16) K5_2 (.skip)
@[simp] def W5_3 := @C.wpe _ _ K5_3.eq_1
def K5_4 : C := .seq (.seq (.pl <| .st (.ext 14 3) <|
    .st (.act none (.px (some 14) (.mv (.v 11)))) <|
    .st (.act none (.px (some 15) (.mv (.v 10)))) <|
    .st (.act none (.px (some 16) (.bin .neq (.v 14) (.v 15)))) .done) K5_3) K5_1
@[simp] def W5_4 := @C.wpe _ _ K5_4.eq_1
def K5_5 : C := .seq (.pl <| .st (.ext 14 0) <|
    .st (.act none (.px (some 2) (.mv (.c (.bool false))))) .done) (.ret)
@[simp] def W5_5 := @C.wpe _ _ K5_5.eq_1
def K5_6 : C := .cond 14 (.v 15) K5_5 (.skip)
@[simp] def W5_6 := @C.wpe _ _ K5_6.eq_1
def K5_7 : C := .seq (.seq (.pl <| .st (.ext 14 2) <|
    .st (.act none (.px (some 14) (.mv (.v 11)))) <|
    .st (.act none (.px (some 15) (.bin .lss (.v 14) (.c (.int .i64 0))))) .done) K5_6) K5_4
@[simp] def W5_7 := @C.wpe _ _ K5_7.eq_1
def K5_8 : Pl := .st (.act none (.px (some 11) (.mv (.v 16)))) .done
@[simp] def W5_8 := @Pl.wpe _ _ K5_8.eq_1
def K5_9 : C := .seq (.pl <| .st (.ext 14 3) <|
    .st (.act none (.pget (some 14) none 7 0 (some 3))) <|
    .st (.act none (.px (some 15) (.mv (.v 11)))) <|
    .st (.act none (.ex (some 16) (.call fn_laws_heldAutomaton [.v 14, .v 15]))) K5_8) K5_7
@[simp] def W5_9 := @C.wpe _ _ K5_9.eq_1
def K5_10 : C := .seq (.pl <| .st (.ext 14 0) <|
    .st (.act none (.px (some 11) (.mv (.c (.int .i64 1))))) .done) K5_9
@[simp] def W5_10 := @C.wpe _ _ K5_10.eq_1
def K5_11 : C := .seq (.pl <| .st (.ext 14 0) <|
    .st (.act none (.px (some 2) (.mv (.c (.bool false))))) .done) (.ret)
@[simp] def W5_11 := @C.wpe _ _ K5_11.eq_1
def K5_12 : C := .cond 14 (.v 22) K5_11 (.skip)
@[simp] def W5_12 := @C.wpe _ _ K5_12.eq_1
def K5_13 : Pl := .st (.act none (.px (some 17) (.un .not (.v 16)))) <|
    .st (.act none (.px (some 18) (.mv (.v 17)))) <|
    .st (.act (some (.v 18, false)) (.px (some 19) (.mv (.v 13)))) <|
    .st (.act (some (.v 18, false)) (.px (some 20) (.mv (.v 5)))) <|
    .st (.act (some (.v 18, false)) (.px (some 21) (.eqb true (.v 19) (.v 20)))) <|
    .st (.act none (.px (some 22) (.pick (.v 18) (.c (.bool true)) (.v 21)))) .done
@[simp] def W5_13 := @Pl.wpe _ _ K5_13.eq_1
def K5_14 : C := .seq (.seq (.pl <| .st (.ext 14 9) <|
    .st (.act none (.pget (some 14) none 12 0 (some 3))) <|
    .st (.act none (.pget (some 15) none 4 0 (some 3))) <|
    .st (.act none (.ex (some 16) (.call fn_laws_eqAutomaton [.v 14, .v 15]))) K5_13) K5_12) K5_10
@[simp] def W5_14 := @C.wpe _ _ K5_14.eq_1
def K5_15 : Pl := .st (.act none (.px (some 17) (.mv (.v 16)))) <|
    .st (.act none (.px (some 18) (.extract 0 (.v 17)))) <|
    .st (.act none (.px (some 19) (.extract 1 (.v 17)))) <|
    .st (.act none (.pnew 12 (.c (.agg #[.slice none 0 0, .slice none 0 0, .slice none 0 0])) [])) <|
    .st (.act none (.pset none 12 0 3 (.v 18))) <|
    .st (.act none (.px (some 13) (.mv (.v 19)))) .done
@[simp] def W5_15 := @Pl.wpe _ _ K5_15.eq_1
def K5_16 : Pl := .st (.act none (.ex (some 16) (.call fn_impl_MergeStates [.v 15]))) K5_15
@[simp] def W5_16 := @Pl.wpe _ _ K5_16.eq_1
def K5_17 : C := .seq (.pl <| .st (.ext 14 6) <|
    .st (.act none (.pget (some 14) none 1 0 (some 3))) <|
    .st (.act none (.ex (some 15) (.call fn_laws_toAutomaton [.v 14]))) K5_16) K5_14
@[simp] def W5_17 := @C.wpe _ _ K5_17.eq_1
def K5_18 : C := .seq (.pl <| .st (.ext 14 0) <|
    .st (.act none (.px (some 2) (.mv (.c (.bool false))))) .done) (.ret)
@[simp] def W5_18 := @C.wpe _ _ K5_18.eq_1
def K5_19 : C := .cond 14 (.v 16) K5_18 (.skip)
@[simp] def W5_19 := @C.wpe _ _ K5_19.eq_1
def K5_20 : C := .seq (.seq (.pl <| .st (.ext 14 3) <|
    .st (.act none (.px (some 14) (.mv (.v 11)))) <|
    .st (.act none (.px (some 15) (.mv (.v 10)))) <|
    .st (.act none (.px (some 16) (.bin .neq (.v 14) (.v 15)))) .done) K5_19) K5_17
@[simp] def W5_20 := @C.wpe _ _ K5_20.eq_1
def K5_21 : C := .seq (.pl <| .st (.ext 14 0) <|
    .st (.act none (.px (some 2) (.mv (.c (.bool false))))) .done) (.ret)
@[simp] def W5_21 := @C.wpe _ _ K5_21.eq_1
def K5_22 : C := .cond 14 (.v 15) K5_21 (.skip)
@[simp] def W5_22 := @C.wpe _ _ K5_22.eq_1
def K5_23 : C := .seq (.seq (.pl <| .st (.ext 14 2) <|
    .st (.act none (.px (some 14) (.mv (.v 11)))) <|
    .st (.act none (.px (some 15) (.bin .lss (.v 14) (.c (.int .i64 0))))) .done) K5_22) K5_20
@[simp] def W5_23 := @C.wpe _ _ K5_23.eq_1
def K5_24 : Pl := .st (.act none (.px (some 11) (.mv (.v 16)))) .done
@[simp] def W5_24 := @Pl.wpe _ _ K5_24.eq_1
def K5_25 : C := .seq (.pl <| .st (.ext 14 3) <|
    .st (.act none (.pget (some 14) none 7 0 (some 3))) <|
    .st (.act none (.px (some 15) (.mv (.v 11)))) <|
    .st (.act none (.ex (some 16) (.call fn_laws_heldAutomaton [.v 14, .v 15]))) K5_24) K5_23
@[simp] def W5_25 := @C.wpe _ _ K5_25.eq_1
def K5_26 : C := .seq (.pl <| .st (.ext 14 0) <|
    .st (.act none (.px (some 11) (.mv (.c (.int .i64 1))))) .done) K5_25
@[simp] def W5_26 := @C.wpe _ _ K5_26.eq_1
def K5_27 : Pl := .st (.act none (.px (some 10) (.mv (.v 16)))) .done
@[simp] def W5_27 := @Pl.wpe _ _ K5_27.eq_1
def K5_28 : C := .seq (.pl <| .st (.ext 14 3) <|
    .st (.act none (.pget (some 14) none 7 0 (some 3))) <|
    .st (.act none (.px (some 15) (.mv (.v 10)))) <|
    .st (.act none (.ex (some 16) (.call fn_laws_markAutomaton [.v 14, .v 15]))) K5_27) K5_26
@[simp] def W5_28 := @C.wpe _ _ K5_28.eq_1
def K5_29 : C := .seq (.pl <| .st (.ext 14 0) <|
    .st (.act none (.px (some 10) (.mv (.c (.int .i64 1))))) .done) K5_28
@[simp] def W5_29 := @C.wpe _ _ K5_29.eq_1
def K5_30 : C := .seq (.pl <| .st (.ext 14 0) <|
    .st (.act none (.px (some 2) (.mv (.c (.bool false))))) .done) (.ret)
@[simp] def W5_30 := @C.wpe _ _ K5_30.eq_1
def K5_31 : C := .cond 14 (.v 26) K5_30 (.skip)
@[simp] def W5_31 := @C.wpe _ _ K5_31.eq_1
def K5_32 : Pl := .st (.act (some (.v 16, false)) (.px (some 20) (.un .not (.v 19)))) <|
    .st (.act none (.px (some 21) (.pick (.v 16) (.c (.bool true)) (.v 20)))) <|
    .st (.act none (.px (some 22) (.mv (.v 21)))) <|
    .st (.act (some (.v 22, false)) (.px (some 23) (.mv (.v 8)))) <|
    .st (.act (some (.v 22, false)) (.px (some 24) (.mv (.v 5)))) <|
    .st (.act (some (.v 22, false)) (.px (some 25) (.eqb true (.v 23) (.v 24)))) <|
    .st (.act none (.px (some 26) (.pick (.v 22) (.c (.bool true)) (.v 25)))) .done
@[simp] def W5_32 := @Pl.wpe _ _ K5_32.eq_1
def K5_33 : C := .seq (.seq (.pl <| .st (.ext 14 13) <|
    .st (.act none (.px (some 14) (.mv (.v 9)))) <|
    .st (.act none (.px (some 15) (.bin .lss (.v 14) (.c (.int .i64 0))))) <|
    .st (.act none (.px (some 16) (.mv (.v 15)))) <|
    .st (.act (some (.v 16, false)) (.pget (some 17) none 7 0 (some 3))) <|
    .st (.act (some (.v 16, false)) (.pget (some 18) none 4 0 (some 3))) <|
    .st (.act (some (.v 16, false)) (.ex (some 19) (.call fn_laws_eqAutomaton [.v 17, .v 18]))) K5_32) K5_31) K5_29
@[simp] def W5_33 := @C.wpe _ _ K5_33.eq_1
def K5_34 : Pl := .st (.act none (.px (some 9) (.mv (.v 16)))) .done
@[simp] def W5_34 := @Pl.wpe _ _ K5_34.eq_1
def K5_35 : C := .seq (.pl <| .st (.ext 14 3) <|
    .st (.act none (.pget (some 14) none 6 0 (some 3))) <|
    .st (.act none (.px (some 15) (.mv (.v 9)))) <|
    .st (.act none (.ex (some 16) (.call fn_laws_markAutomaton [.v 14, .v 15]))) K5_34) K5_33
@[simp] def W5_35 := @C.wpe _ _ K5_35.eq_1
def K5_36 : C := .seq (.pl <| .st (.ext 14 0) <|
    .st (.act none (.px (some 9) (.mv (.c (.int .i64 1))))) .done) K5_35
@[simp] def W5_36 := @C.wpe _ _ K5_36.eq_1
def K5_37 : C := .seq (.pl <| .st (.ext 14 0) <|
    .st (.act none (.px (some 2) (.mv (.c (.bool false))))) .done) (.ret)
@[simp] def W5_37 := @C.wpe _ _ K5_37.eq_1
def K5_38 : C := .cond 14 (.v 18) K5_37 (.skip)
@[simp] def W5_38 := @C.wpe _ _ K5_38.eq_1
def K5_39 : Pl := .st (.act none (.px (some 18) (.un .not (.v 17)))) .done
@[simp] def W5_39 := @Pl.wpe _ _ K5_39.eq_1
def K5_40 : Pl := .st (.act none (.ex (some 17) (.call fn_laws_eqAutomaton [.v 14, .v 16]))) K5_39
@[simp] def W5_40 := @Pl.wpe _ _ K5_40.eq_1
def K5_41 : C := .seq (.seq (.pl <| .st (.ext 14 5) <|
    .st (.act none (.pget (some 14) none 6 0 (some 3))) <|
    .st (.act none (.pget (some 15) none 1 0 (some 3))) <|
    .st (.act none (.ex (some 16) (.call fn_laws_toAutomaton [.v 15]))) K5_40) K5_38) K5_36
@[simp] def W5_41 := @C.wpe _ _ K5_41.eq_1
def K5_42 : C := .seq (.pl <| .st (.ext 14 0) <|
    .st (.act none (.px (some 2) (.mv (.c (.bool false))))) .done) (.ret)
@[simp] def W5_42 := @C.wpe _ _ K5_42.eq_1
def K5_43 : C := .cond 14 (.v 22) K5_42 (.skip)
@[simp] def W5_43 := @C.wpe _ _ K5_43.eq_1
def K5_44 : Pl := .st (.act none (.px (some 17) (.un .not (.v 16)))) <|
    .st (.act none (.px (some 18) (.mv (.v 17)))) <|
    .st (.act (some (.v 18, false)) (.px (some 19) (.mv (.v 8)))) <|
    .st (.act (some (.v 18, false)) (.px (some 20) (.mv (.v 5)))) <|
    .st (.act (some (.v 18, false)) (.px (some 21) (.eqb true (.v 19) (.v 20)))) <|
    .st (.act none (.px (some 22) (.pick (.v 18) (.c (.bool true)) (.v 21)))) .done
@[simp] def W5_44 := @Pl.wpe _ _ K5_44.eq_1
def K5_45 : C := .seq (.seq (.pl <| .st (.ext 14 9) <|
    .st (.act none (.pget (some 14) none 7 0 (some 3))) <|
    .st (.act none (.pget (some 15) none 4 0 (some 3))) <|
    .st (.act none (.ex (some 16) (.call fn_laws_eqAutomaton [.v 14, .v 15]))) K5_44) K5_43) K5_41
@[simp] def W5_45 := @C.wpe _ _ K5_45.eq_1
def K5_46 : Pl := .st (.act none (.px (some 16) (.mv (.v 15)))) <|
    .st (.act none (.px (some 17) (.extract 0 (.v 16)))) <|
    .st (.act none (.px (some 18) (.extract 1 (.v 16)))) <|
    .st (.act none (.pnew 7 (.c (.agg #[.slice none 0 0, .slice none 0 0, .slice none 0 0])) [])) <|
    .st (.act none (.pset none 7 0 3 (.v 17))) <|
    .st (.act none (.px (some 8) (.mv (.v 18)))) .done
@[simp] def W5_46 := @Pl.wpe _ _ K5_46.eq_1
def K5_47 : C := .seq (.pl <| .st (.ext 14 5) <|
    .st (.act none (.pget (some 14) none 6 0 (some 3))) <|
    .st (.act none (.ex (some 15) (.call fn_impl_MergeStates [.v 14]))) K5_46) K5_45
@[simp] def W5_47 := @C.wpe _ _ K5_47.eq_1
def K5_48 : Pl := .st (.act none (.pnew 6 (.c (.agg #[.slice none 0 0, .slice none 0 0, .slice none 0 0])) [])) <|
    .st (.act none (.pset none 6 0 3 (.v 15))) .done
@[simp] def W5_48 := @Pl.wpe _ _ K5_48.eq_1
def K5_49 : C := .seq (.pl <| .st (.ext 14 2) <|
    .st (.act none (.pget (some 14) none 1 0 (some 3))) <|
    .st (.act none (.ex (some 15) (.call fn_laws_toAutomaton [.v 14]))) K5_48) K5_47
@[simp] def W5_49 := @C.wpe _ _ K5_49.eq_1
def K5_50 : Pl := .st (.act none (.px (some 17) (.mv (.v 16)))) <|
    .st (.act none (.px (some 18) (.extract 0 (.v 17)))) <|
    .st (.act none (.px (some 19) (.extract 1 (.v 17)))) <|
    .st (.act none (.pnew 4 (.c (.agg #[.slice none 0 0, .slice none 0 0, .slice none 0 0])) [])) <|
    .st (.act none (.pset none 4 0 3 (.v 18))) <|
    .st (.act none (.px (some 5) (.mv (.v 19)))) .done
@[simp] def W5_50 := @Pl.wpe _ _ K5_50.eq_1
def K5_51 : Pl := .st (.act none (.ex (some 16) (.call fn_spec_MergeStates [.v 15]))) K5_50
@[simp] def W5_51 := @Pl.wpe _ _ K5_51.eq_1
def K5_52 : C := .seq (.pl <| .st (.ext 14 6) <|
    .st (.act none (.pget (some 14) none 1 0 (some 3))) <|
    .st (.act none (.ex (some 15) (.call fn_laws_toAutomaton [.v 14]))) K5_51) K5_49
@[simp] def W5_52 := @C.wpe _ _ K5_52.eq_1
def K5_53 : C := .seq (.pl <| .st (.ext 14 0) <|
    .st (.act none (.px (some 2) (.mv (.c (.bool true))))) .done) (.ret)
@[simp] def W5_53 := @C.wpe _ _ K5_53.eq_1
def K5_54 : C := .cond 14 (.v 15) K5_53 (.skip)
@[simp] def W5_54 := @C.wpe _ _ K5_54.eq_1
def K5_55 : C := .seq (.seq (.pl <| .st (.ext 14 2) <|
    .st (.act none (.px (some 14) (.mv (.v 3)))) <|
    .st (.act none (.px (some 15) (.bin .lss (.v 14) (.c (.int .i64 0))))) .done) K5_54) K5_52
@[simp] def W5_55 := @C.wpe _ _ K5_55.eq_1
def K5_56 : Pl := .st (.act none (.px (some 3) (.mv (.v 16)))) .done
@[simp] def W5_56 := @Pl.wpe _ _ K5_56.eq_1
def K5_57 : C := .seq (.pl <| .st (.ext 14 3) <|
    .st (.act none (.pget (some 14) none 1 0 (some 3))) <|
    .st (.act none (.px (some 15) (.mv (.v 3)))) <|
    .st (.act none (.ex (some 16) (.call fn_laws_szAutomaton [.v 14, .v 15]))) K5_56) K5_55
@[simp] def W5_57 := @C.wpe _ _ K5_57.eq_1
def K5_58 : C := .seq (.pl <| .st (.ext 14 0) <|
    .st (.act none (.px (some 3) (.mv (.c (.int .i64 1048576))))) .done) K5_57
@[simp] def W5_58 := @C.wpe _ _ K5_58.eq_1
def B_laws_FnExactMergeStates : C := .seq (.pl <| .st (.ext 14 0) <|
    .st (.act none (.pnew 1 (.v 0) [])) <|
    .st (.act none (.px (some 2) (.mv (.c (.bool false))))) .done) K5_58
@[simp] def WB_laws_FnExactMergeStates := @C.wpe _ _ B_laws_FnExactMergeStates.eq_1
def R_laws_FnExactMergeStates : FIR := ⟨B_laws_FnExactMergeStates, 14, [(2, none)]⟩
theorem IR_laws_FnExactMergeStates : cfun Try.prog H_laws_FnExactMergeStates Try.f5 = some R_laws_FnExactMergeStates := by kernel_rfl
theorem EN_laws_FnExactMergeStates {args : List Value} {h : Heap} {k : Value → Heap → Prop} (hargs : args.length = 1) (hw : B_laws_FnExactMergeStates.wp Try.prog (retQ [(2, none)] k) (env0 args 14) h) : CallE Try.prog fn_laws_FnExactMergeStates args h k := enter Try.func5 rfl IR_laws_FnExactMergeStates hargs hw

def H_slices_Compact_S_int_int : Hint := ⟨[(0, false), (2, false), (3, false), (4, false), (5, false)], [[1, 3, 4], [1]]⟩
def K87_1 : C := .seq (.pl <| .st (.ext 5 1) <|
    .st (.act none (.px (some 5) (.mv (.v 0)))) <|
    .st (.act none (.px (some 1) (.mv (.v 5)))) .done) (.ret)
@[simp] def W87_1 := @C.wpe _ _ K87_1.eq_1
def K87_2 : C := .pl <| .st (.ext 5 2) <|
    .st (.act none (.px (some 5) (.mv (.v 2)))) <|
    .st (.act none (.px (some 6) (.bin .add (.v 5) (.c (.int .i64 1))))) <|
    .st (.act none (.px (some 2) (.mv (.v 6)))) .done
@[simp] def W87_2 := @C.wpe _ _ K87_2.eq_1
def K87_3 : C := .seq (.pl <| .st (.ext 5 3) <|
    .st (.act none (.px (some 5) (.mv (.v 0)))) <|
    .st (.act none (.px (some 6) (.mv (.v 2)))) <|
    .st (.act none (.px (some 7) (.sliceV 1 (.v 5) none (some (.v 6)) none))) <|
    .st (.act none (.px (some 1) (.mv (.v 7)))) .done) (.ret)
@[simp] def W87_3 := @C.wpe _ _ K87_3.eq_1
def K87_4 : C := .seq (.pl <| .st (.ext 5 3) <|
    .st (.act none (.px (some 5) (.mv (.v 0)))) <|
    .st (.act none (.px (some 6) (.mv (.v 2)))) <|
    .st (.act none (.px (some 7) (.sliceV 1 (.v 5) (some (.v 6)) none none))) <|
    .st (.act none (.px none (.extract 0 (.c (.tuple #[]))))) .done) K87_3
@[simp] def W87_4 := @C.wpe _ _ K87_4.eq_1
def K87_5 : C := .pl <| .st (.ext 5 2) <|
    .st (.act none (.px (some 5) (.mv (.v 4)))) <|
    .st (.act none (.px (some 6) (.bin .add (.v 5) (.c (.int .i64 1))))) <|
    .st (.act none (.px (some 4) (.mv (.v 6)))) .done
@[simp] def W87_5 := @C.wpe _ _ K87_5.eq_1
def K87_6 : C := .pl <| .st (.ext 5 2) <|
    .st (.act none (.px (some 5) (.mv (.v 2)))) <|
    .st (.act none (.px (some 6) (.bin .add (.v 5) (.c (.int .i64 1))))) <|
    .st (.act none (.px (some 2) (.mv (.v 6)))) .done
@[simp] def W87_6 := @C.wpe _ _ K87_6.eq_1
def K87_7 : C := .seq (.pl <| .st (.ext 5 7) <|
    .st (.act none (.px (some 5) (.mv (.v 0)))) <|
    .st (.act none (.px (some 6) (.mv (.v 2)))) <|
    .st (.act none (.px (some 7) (.mv (.v 3)))) <|
    .st (.act none (.px (some 8) (.mv (.v 4)))) <|
    .st (.act none (.px (some 9) (.ia 1 (.v 7) (.v 8)))) <|
    .st (.act none (.ld (some 10) (.v 9) none)) <|
    .st (.act none (.px (some 11) (.ia 1 (.v 5) (.v 6)))) <|
    .st (.act none (.ex none (.store 1 (.v 11) (.v 10)))) .done) K87_6
@[simp] def W87_7 := @C.wpe _ _ K87_7.eq_1
def K87_8 : C := .cond 5 (.v 14) K87_7 (.skip)
@[simp] def W87_8 := @C.wpe _ _ K87_8.eq_1
def K87_9 : C := .seq (.block 3 (.seq (.pl <| .st (.ext 5 10) <|
    .st (.act none (.px (some 5) (.mv (.v 3)))) <|
    .st (.act none (.px (some 6) (.mv (.v 4)))) <|
    .st (.act none (.px (some 7) (.ia 1 (.v 5) (.v 6)))) <|
    .st (.act none (.ld (some 8) (.v 7) none)) <|
    .st (.act none (.px (some 9) (.mv (.v 3)))) <|
    .st (.act none (.px (some 10) (.mv (.v 4)))) <|
    .st (.act none (.px (some 11) (.bin .sub (.v 10) (.c (.int .i64 1))))) <|
    .st (.act none (.px (some 12) (.ia 1 (.v 9) (.v 11)))) <|
    .st (.act none (.ld (some 13) (.v 12) none)) <|
    .st (.act none (.px (some 14) (.bin .neq (.v 8) (.v 13)))) .done) K87_8)) K87_5
@[simp] def W87_9 := @C.wpe _ _ K87_9.eq_1
def K87_10 : C := .cond 5 (.v 8) (.skip) (.exit 2)
@[simp] def W87_10 := @C.wpe _ _ K87_10.eq_1
def K87_11 : C := .seq (.seq (.pl <| .st (.ext 5 4) <|
    .st (.act none (.px (some 5) (.mv (.v 4)))) <|
    .st (.act none (.px (some 6) (.mv (.v 3)))) <|
    .st (.act none (.px (some 7) (.lenV (.v 6)))) <|
    .st (.act none (.px (some 8) (.bin .lss (.v 5) (.v 7)))) .done) K87_10) K87_9
@[simp] def W87_11 := @C.wpe _ _ K87_11.eq_1
def K87_12 : C := .block 2 (.loop 5 [1] K87_11)
@[simp] def W87_12 := @C.wpe _ _ K87_12.eq_1
def K87_13 : C := .seq (.seq (.pl <| .st (.ext 5 0) <|
    .st (.act none (.px (some 4) (.mv (.c (.int .i64 1))))) .done) K87_12) K87_4
@[simp] def W87_13 := @C.wpe _ _ K87_13.eq_1
def K87_14 : C := .seq (.pl <| .st (.ext 5 3) <|
    .st (.act none (.px (some 5) (.mv (.v 0)))) <|
    .st (.act none (.px (some 6) (.mv (.v 2)))) <|
    .st (.act none (.px (some 7) (.sliceV 1 (.v 5) (some (.v 6)) none none))) <|
    .st (.act none (.px (some 3) (.mv (.v 7)))) .done) K87_13
@[simp] def W87_14 := @C.wpe _ _ K87_14.eq_1
def K87_15 : C := .cond 5 (.v 14) K87_14 (.skip)
@[simp] def W87_15 := @C.wpe _ _ K87_15.eq_1
def K87_16 : C := .seq (.block 1 (.seq (.pl <| .st (.ext 5 10) <|
    .st (.act none (.px (some 5) (.mv (.v 0)))) <|
    .st (.act none (.px (some 6) (.mv (.v 2)))) <|
    .st (.act none (.px (some 7) (.ia 1 (.v 5) (.v 6)))) <|
    .st (.act none (.ld (some 8) (.v 7) none)) <|
    .st (.act none (.px (some 9) (.mv (.v 0)))) <|
    .st (.act none (.px (some 10) (.mv (.v 2)))) <|
    .st (.act none (.px (some 11) (.bin .sub (.v 10) (.c (.int .i64 1))))) <|
    .st (.act none (.px (some 12) (.ia 1 (.v 9) (.v 11)))) <|
    .st (.act none (.ld (some 13) (.v 12) none)) <|
    .st (.act none (.px (some 14) (.bin .eql (.v 8) (.v 13)))) .done) K87_15)) K87_2
@[simp] def W87_16 := @C.wpe _ _ K87_16.eq_1
def K87_17 : C := .cond 5 (.v 8) (.skip) (.exit 0)
@[simp] def W87_17 := @C.wpe _ _ K87_17.eq_1
def K87_18 : C := .seq (.seq (.pl <| .st (.ext 5 4) <|
    .st (.act none (.px (some 5) (.mv (.v 2)))) <|
    .st (.act none (.px (some 6) (.mv (.v 0)))) <|
    .st (.act none (.px (some 7) (.lenV (.v 6)))) <|
    .st (.act none (.px (some 8) (.bin .lss (.v 5) (.v 7)))) .done) K87_17) K87_16
@[simp] def W87_18 := @C.wpe _ _ K87_18.eq_1
def K87_19 : C := .block 0 (.loop 5 [1, 3, 4] K87_18)
@[simp] def W87_19 := @C.wpe _ _ K87_19.eq_1
def K87_20 : C := .seq (.seq (.pl <| .st (.ext 5 0) <|
    .st (.act none (.px (some 2) (.mv (.c (.int .i64 1))))) .done) K87_19) K87_1
@[simp] def W87_20 := @C.wpe _ _ K87_20.eq_1
def K87_21 : C := .seq (.pl <| .st (.ext 5 1) <|
    .st (.act none (.px (some 5) (.mv (.v 0)))) <|
    .st (.act none (.px (some 1) (.mv (.v 5)))) .done) (.ret)
@[simp] def W87_21 := @C.wpe _ _ K87_21.eq_1
def K87_22 : C := .cond 5 (.v 7) K87_21 (.skip)
@[simp] def W87_22 := @C.wpe _ _ K87_22.eq_1
def K87_23 : C := .seq (.seq (.pl <| .st (.ext 5 3) <|
    .st (.act none (.px (some 5) (.mv (.v 0)))) <|
    .st (.act none (.px (some 6) (.lenV (.v 5)))) <|
    .st (.act none (.px (some 7) (.bin .lss (.v 6) (.c (.int .i64 2))))) .done) K87_22) K87_20
@[simp] def W87_23 := @C.wpe _ _ K87_23.eq_1
def B_slices_Compact_S_int_int : C := .seq (.pl <| .st (.ext 5 0) <|
    .st (.act none (.px (some 1) (.mv (.c (.slice none 0 0))))) .done) K87_23
@[simp] def WB_slices_Compact_S_int_int := @C.wpe _ _ B_slices_Compact_S_int_int.eq_1
def R_slices_Compact_S_int_int : FIR := ⟨B_slices_Compact_S_int_int, 5, [(1, none)]⟩
theorem IR_slices_Compact_S_int_int : cfun Try.prog H_slices_Compact_S_int_int Try.f87 = some R_slices_Compact_S_int_int := by kernel_rfl
theorem EN_slices_Compact_S_int_int {args : List Value} {h : Heap} {k : Value → Heap → Prop} (hargs : args.length = 1) (hw : B_slices_Compact_S_int_int.wp Try.prog (retQ [(1, none)] k) (env0 args 5) h) : CallE Try.prog fn_slices_Compact_S_int_int args h k := enter Try.func87 rfl IR_slices_Compact_S_int_int hargs hw

def H_spec_MergeStates : Hint := ⟨[(0, false), (1, true), (2, true), (3, false)], []⟩
def K21_1 : Pl := .st (.act none (.pset none 2 0 3 (.v 5))) <|
    .st (.act none (.px (some 3) (.mv (.c (.bool true))))) .done
@[simp] def W21_1 := @Pl.wpe _ _ K21_1.eq_1
def K21_2 : C := .seq (.pl <| .st (.ext 4 2) <|
    .st (.act none (.pget (some 4) none 1 0 (some 3))) <|
    .st (.act none (.ex (some 5) (.call fn_spec_l13Merge [.v 4]))) K21_1) (.ret)
@[simp] def W21_2 := @C.wpe _ _ K21_2.eq_1
def K21_3 : C := .seq (.pl <| .st (.ext 4 1) <|
    .st (.act none (.px (some 4) (.build [.slice none 0 0, .slice none 0 0, .slice none 0 0] []))) <|
    .st (.act none (.pset none 2 0 3 (.v 4))) <|
    .st (.act none (.px (some 3) (.mv (.c (.bool false))))) .done) (.ret)
@[simp] def W21_3 := @C.wpe _ _ K21_3.eq_1
def K21_4 : C := .cond 4 (.v 6) K21_3 (.skip)
@[simp] def W21_4 := @C.wpe _ _ K21_4.eq_1
def K21_5 : Pl := .st (.act none (.px (some 6) (.un .not (.v 5)))) .done
@[simp] def W21_5 := @Pl.wpe _ _ K21_5.eq_1
def K21_6 : C := .seq (.seq (.pl <| .st (.ext 4 3) <|
    .st (.act none (.pget (some 4) none 1 0 (some 3))) <|
    .st (.act none (.ex (some 5) (.call fn_spec_AutomatonValid [.v 4]))) K21_5) K21_4) K21_2
@[simp] def W21_6 := @C.wpe _ _ K21_6.eq_1
def B_spec_MergeStates : C := .seq (.pl <| .st (.ext 4 0) <|
    .st (.act none (.pnew 1 (.v 0) [])) <|
    .st (.act none (.pnew 2 (.c (.agg #[.slice none 0 0, .slice none 0 0, .slice none 0 0])) [])) <|
    .st (.act none (.px (some 3) (.mv (.c (.bool false))))) .done) K21_6
@[simp] def WB_spec_MergeStates := @C.wpe _ _ B_spec_MergeStates.eq_1
def R_spec_MergeStates : FIR := ⟨B_spec_MergeStates, 4, [(2, some (some 3)), (3, none)]⟩
theorem IR_spec_MergeStates : cfun Try.prog H_spec_MergeStates Try.f21 = some R_spec_MergeStates := by kernel_rfl
theorem EN_spec_MergeStates {args : List Value} {h : Heap} {k : Value → Heap → Prop} (hargs : args.length = 1) (hw : B_spec_MergeStates.wp Try.prog (retQ [(2, some (some 3)), (3, none)] k) (env0 args 4) h) : CallE Try.prog fn_spec_MergeStates args h k := enter Try.func21 rfl IR_spec_MergeStates hargs hw

def H_spec_l10Sorted : Hint := ⟨[(0, false), (1, false), (4, false), (5, false), (6, false), (7, false)], [[2]]⟩
def K81_1 : C := .seq (.pl <| .st (.ext 6 1) <|
    .st (.act none (.px (some 6) (.mv (.v 3)))) <|
    .st (.act none (.px (some 2) (.mv (.v 6)))) .done) (.ret)
@[simp] def W81_1 := @C.wpe _ _ K81_1.eq_1
def K81_2 : Pl := .st (.act none (.px (some 3) (.mv (.v 9)))) .done
@[simp] def W81_2 := @Pl.wpe _ _ K81_2.eq_1
def K81_3 : C := .pl <| .st (.ext 6 4) <|
    .st (.act none (.px (some 6) (.mv (.v 3)))) <|
    .st (.act none (.px (some 7) (.mv (.v 1)))) <|
    .st (.act none (.psl 8 [.int .i64 0] [(0, 1, .v 7)])) <|
    .st (.act none (.ex (some 9) (.app 8 1 [.int .i64 0] (.o (.v 6)) (.p 1 8)))) K81_2
@[simp] def W81_3 := @C.wpe _ _ K81_3.eq_1
def K81_4 : C := .cond 6 (.v 7) K81_3 (.skip)
@[simp] def W81_4 := @C.wpe _ _ K81_4.eq_1
def K81_5 : C := .seq (.seq (.pl <| .st (.ext 6 2) <|
    .st (.act none (.px (some 6) (.mv (.v 4)))) <|
    .st (.act none (.px (some 7) (.un .not (.v 6)))) .done) K81_4) K81_1
@[simp] def W81_5 := @C.wpe _ _ K81_5.eq_1
def K81_6 : C := .pl <| .st (.ext 6 2) <|
    .st (.act none (.px (some 6) (.mv (.v 5)))) <|
    .st (.act none (.px (some 7) (.bin .add (.v 6) (.c (.int .i64 1))))) <|
    .st (.act none (.px (some 5) (.mv (.v 7)))) .done
@[simp] def W81_6 := @C.wpe _ _ K81_6.eq_1
def K81_7 : Pl := .st (.act none (.px (some 3) (.mv (.v 12)))) .done
@[simp] def W81_7 := @Pl.wpe _ _ K81_7.eq_1
def K81_8 : C := .pl <| .st (.ext 6 7) <|
    .st (.act none (.px (some 6) (.mv (.v 3)))) <|
    .st (.act none (.px (some 7) (.mv (.v 0)))) <|
    .st (.act none (.px (some 8) (.mv (.v 5)))) <|
    .st (.act none (.px (some 9) (.ia 1 (.v 7) (.v 8)))) <|
    .st (.act none (.ld (some 10) (.v 9) none)) <|
    .st (.act none (.psl 11 [.int .i64 0] [(0, 1, .v 10)])) <|
    .st (.act none (.ex (some 12) (.app 8 1 [.int .i64 0] (.o (.v 6)) (.p 1 11)))) K81_7
@[simp] def W81_8 := @C.wpe _ _ K81_8.eq_1
def K81_9 : C := .pl <| .st (.ext 6 0) <|
    .st (.act none (.px (some 4) (.mv (.c (.bool true))))) .done
@[simp] def W81_9 := @C.wpe _ _ K81_9.eq_1
def K81_10 : Pl := .st (.act none (.px (some 3) (.mv (.v 9)))) .done
@[simp] def W81_10 := @Pl.wpe _ _ K81_10.eq_1
def K81_11 : C := .seq (.pl <| .st (.ext 6 4) <|
    .st (.act none (.px (some 6) (.mv (.v 3)))) <|
    .st (.act none (.px (some 7) (.mv (.v 1)))) <|
    .st (.act none (.psl 8 [.int .i64 0] [(0, 1, .v 7)])) <|
    .st (.act none (.ex (some 9) (.app 8 1 [.int .i64 0] (.o (.v 6)) (.p 1 8)))) K81_10) K81_9
@[simp] def W81_11 := @C.wpe _ _ K81_11.eq_1
def K81_12 : C := .cond 6 (.v 15) K81_11 (.skip)
@[simp] def W81_12 := @C.wpe _ _ K81_12.eq_1
def K81_13 : C := .seq (.seq (.pl <| .st (.ext 6 10) <|
    .st (.act none (.px (some 6) (.mv (.v 0)))) <|
    .st (.act none (.px (some 7) (.mv (.v 5)))) <|
    .st (.act none (.px (some 8) (.ia 1 (.v 6) (.v 7)))) <|
    .st (.act none (.ld (some 9) (.v 8) none)) <|
    .st (.act none (.px (some 10) (.mv (.v 1)))) <|
    .st (.act none (.px (some 11) (.bin .gtr (.v 9) (.v 10)))) <|
    .st (.act none (.px (some 12) (.mv (.v 11)))) <|
    .st (.act (some (.v 12, true)) (.px (some 13) (.mv (.v 4)))) <|
    .st (.act (some (.v 12, true)) (.px (some 14) (.un .not (.v 13)))) <|
    .st (.act none (.px (some 15) (.pick (.v 12) (.v 14) (.c (.bool false))))) .done) K81_12) K81_8
@[simp] def W81_13 := @C.wpe _ _ K81_13.eq_1
def K81_14 : C := .seq (.pl <| .st (.ext 6 1) <|
    .st (.act none (.px (some 6) (.mv (.v 0)))) <|
    .st (.act none (.px (some 2) (.mv (.v 6)))) .done) (.ret)
@[simp] def W81_14 := @C.wpe _ _ K81_14.eq_1
def K81_15 : C := .cond 6 (.v 11) K81_14 (.skip)
@[simp] def W81_15 := @C.wpe _ _ K81_15.eq_1
def K81_16 : C := .seq (.block 1 (.seq (.seq (.pl <| .st (.ext 6 6) <|
    .st (.act none (.px (some 6) (.mv (.v 0)))) <|
    .st (.act none (.px (some 7) (.mv (.v 5)))) <|
    .st (.act none (.px (some 8) (.ia 1 (.v 6) (.v 7)))) <|
    .st (.act none (.ld (some 9) (.v 8) none)) <|
    .st (.act none (.px (some 10) (.mv (.v 1)))) <|
    .st (.act none (.px (some 11) (.bin .eql (.v 9) (.v 10)))) .done) K81_15) K81_13)) K81_6
@[simp] def W81_16 := @C.wpe _ _ K81_16.eq_1
def K81_17 : C := .cond 6 (.v 9) (.skip) (.exit 0)
@[simp] def W81_17 := @C.wpe _ _ K81_17.eq_1
def K81_18 : C := .seq (.seq (.pl <| .st (.ext 6 4) <|
    .st (.act none (.px (some 6) (.mv (.v 5)))) <|
    .st (.act none (.px (some 7) (.mv (.v 0)))) <|
    .st (.act none (.px (some 8) (.lenV (.v 7)))) <|
    .st (.act none (.px (some 9) (.bin .lss (.v 6) (.v 8)))) .done) K81_17) K81_16
@[simp] def W81_18 := @C.wpe _ _ K81_18.eq_1
def K81_19 : C := .block 0 (.loop 6 [2] K81_18)
@[simp] def W81_19 := @C.wpe _ _ K81_19.eq_1
def K81_20 : C := .seq (.seq (.pl <| .st (.ext 6 0) <|
    .st (.act none (.px (some 5) (.mv (.c (.int .i64 0))))) .done) K81_19) K81_5
@[simp] def W81_20 := @C.wpe _ _ K81_20.eq_1
def K81_21 : C := .seq (.pl <| .st (.ext 6 0) <|
    .st (.act none (.px (some 4) (.mv (.c (.bool false))))) .done) K81_20
@[simp] def W81_21 := @C.wpe _ _ K81_21.eq_1
def K81_22 : Pl := .st (.act none (.px (some 3) (.mv (.v 6)))) .done
@[simp] def W81_22 := @Pl.wpe _ _ K81_22.eq_1
def K81_23 : C := .seq (.pl <| .st (.ext 6 1) <|
    .st (.act none (.ex (some 6) (.bls 1 0 [.int .i64 0] []))) K81_22) K81_21
@[simp] def W81_23 := @C.wpe _ _ K81_23.eq_1
def B_spec_l10Sorted : C := .seq (.pl <| .st (.ext 6 0) <|
    .st (.act none (.px (some 2) (.mv (.c (.slice none 0 0))))) .done) K81_23
@[simp] def WB_spec_l10Sorted := @C.wpe _ _ B_spec_l10Sorted.eq_1
def R_spec_l10Sorted : FIR := ⟨B_spec_l10Sorted, 6, [(2, none)]⟩
theorem IR_spec_l10Sorted : cfun Try.prog H_spec_l10Sorted Try.f81 = some R_spec_l10Sorted := by kernel_rfl
theorem EN_spec_l10Sorted {args : List Value} {h : Heap} {k : Value → Heap → Prop} (hargs : args.length = 2) (hw : B_spec_l10Sorted.wp Try.prog (retQ [(2, none)] k) (env0 args 6) h) : CallE Try.prog fn_spec_l10Sorted args h k := enter Try.func81 rfl IR_spec_l10Sorted hargs hw

def H_spec_l13Answers : Hint := ⟨[(0, false), (1, false), (2, false), (6, false), (7, false), (8, false), (9, false), (10, false)], [[3, 5, 6, 7], [3, 6, 7], [3]]⟩
def K109_1 : C := .seq (.pl <| .st (.ext 8 0) <|
    .st (.act none (.px (some 3) (.mv (.c (.bool true))))) .done) (.ret)
@[simp] def W109_1 := @C.wpe _ _ K109_1.eq_1
def K109_2 : C := .pl <| .st (.ext 8 2) <|
    .st (.act none (.px (some 8) (.mv (.v 4)))) <|
    .st (.act none (.px (some 9) (.bin .add (.v 8) (.c (.int .i64 1))))) <|
    .st (.act none (.px (some 4) (.mv (.v 9)))) .done
@[simp] def W109_2 := @C.wpe _ _ K109_2.eq_1
def K109_3 : C := .pl <| .st (.ext 8 2) <|
    .st (.act none (.px (some 8) (.mv (.v 5)))) <|
    .st (.act none (.px (some 9) (.bin .add (.v 8) (.c (.int .i64 1))))) <|
    .st (.act none (.px (some 5) (.mv (.v 9)))) .done
@[simp] def W109_3 := @C.wpe _ _ K109_3.eq_1
def K109_4 : C := .seq (.pl <| .st (.ext 8 0) <|
    .st (.act none (.px (some 3) (.mv (.c (.bool false))))) .done) (.ret)
@[simp] def W109_4 := @C.wpe _ _ K109_4.eq_1
def K109_5 : C := .cond 8 (.v 9) K109_4 (.skip)
@[simp] def W109_5 := @C.wpe _ _ K109_5.eq_1
def K109_6 : C := .seq (.pl <| .st (.ext 8 2) <|
    .st (.act none (.px (some 8) (.mv (.v 6)))) <|
    .st (.act none (.px (some 9) (.un .not (.v 8)))) .done) K109_5
@[simp] def W109_6 := @C.wpe _ _ K109_6.eq_1
def K109_7 : C := .pl <| .st (.ext 8 2) <|
    .st (.act none (.px (some 8) (.mv (.v 7)))) <|
    .st (.act none (.px (some 9) (.bin .add (.v 8) (.c (.int .i64 1))))) <|
    .st (.act none (.px (some 7) (.mv (.v 9)))) .done
@[simp] def W109_7 := @C.wpe _ _ K109_7.eq_1
def K109_8 : Pl := .st (.act none (.px (some 14) (.mv (.v 13)))) <|
    .st (.act (some (.v 14, true)) (.px (some 15) (.mv (.v 2)))) <|
    .st (.act (some (.v 14, true)) (.px (some 16) (.mv (.v 0)))) <|
    .st (.act (some (.v 14, true)) (.px (some 17) (.mv (.v 5)))) <|
    .st (.act (some (.v 14, true)) (.px (some 18) (.ia 4 (.v 16) (.v 17)))) <|
    .st (.act (some (.v 14, true)) (.px (some 19) (.fa 3 (.v 18)))) <|
    .st (.act (some (.v 14, true)) (.ld (some 20) (.v 19) none)) <|
    .st (.act (some (.v 14, true)) (.px (some 21) (.ia 1 (.v 15) (.v 20)))) <|
    .st (.act (some (.v 14, true)) (.ld (some 22) (.v 21) none)) <|
    .st (.act (some (.v 14, true)) (.px (some 23) (.mv (.v 1)))) <|
    .st (.act (some (.v 14, true)) (.px (some 24) (.mv (.v 7)))) <|
    .st (.act (some (.v 14, true)) (.px (some 25) (.ia 4 (.v 23) (.v 24)))) <|
    .st (.act (some (.v 14, true)) (.px (some 26) (.fa 3 (.v 25)))) <|
    .st (.act (some (.v 14, true)) (.ld (some 27) (.v 26) none)) <|
    .st (.act (some (.v 14, true)) (.px (some 28) (.ia 1 (.v 22) (.v 27)))) <|
    .st (.act (some (.v 14, true)) (.ld (some 29) (.v 28) none)) <|
    .st (.act none (.px (some 30) (.pick (.v 14) (.v 29) (.c (.bool false))))) <|
    .st (.act none (.px (some 6) (.mv (.v 30)))) .done
@[simp] def W109_8 := @Pl.wpe _ _ K109_8.eq_1
def K109_9 : C := .seq (.block 5 (.pl <| .st (.ext 8 23) <|
    .st (.act none (.px (some 8) (.mv (.v 1)))) <|
    .st (.act none (.px (some 9) (.mv (.v 7)))) <|
    .st (.act none (.px (some 10) (.ia 4 (.v 8) (.v 9)))) <|
    .st (.act none (.ld (some 11) (.v 10) (some 4))) <|
    .st (.act none (.px (some 12) (.mv (.v 4)))) <|
    .st (.act none (.ex (some 13) (.call fn_spec_l7On [.v 11, .v 12]))) K109_8)) K109_7
@[simp] def W109_9 := @C.wpe _ _ K109_9.eq_1
def K109_10 : C := .cond 8 (.v 15) (.skip) (.exit 4)
@[simp] def W109_10 := @C.wpe _ _ K109_10.eq_1
def K109_11 : C := .seq (.seq (.pl <| .st (.ext 8 8) <|
    .st (.act none (.px (some 8) (.mv (.v 7)))) <|
    .st (.act none (.px (some 9) (.mv (.v 1)))) <|
    .st (.act none (.px (some 10) (.lenV (.v 9)))) <|
    .st (.act none (.px (some 11) (.bin .lss (.v 8) (.v 10)))) <|
    .st (.act none (.px (some 12) (.mv (.v 11)))) <|
    .st (.act (some (.v 12, true)) (.px (some 13) (.mv (.v 6)))) <|
    .st (.act (some (.v 12, true)) (.px (some 14) (.un .not (.v 13)))) <|
    .st (.act none (.px (some 15) (.pick (.v 12) (.v 14) (.c (.bool false))))) .done) K109_10) K109_9
@[simp] def W109_11 := @C.wpe _ _ K109_11.eq_1
def K109_12 : C := .block 4 (.loop 8 [3] K109_11)
@[simp] def W109_12 := @C.wpe _ _ K109_12.eq_1
def K109_13 : C := .seq (.seq (.pl <| .st (.ext 8 0) <|
    .st (.act none (.px (some 7) (.mv (.c (.int .i64 0))))) .done) K109_12) K109_6
@[simp] def W109_13 := @C.wpe _ _ K109_13.eq_1
def K109_14 : C := .seq (.pl <| .st (.ext 8 0) <|
    .st (.act none (.px (some 6) (.mv (.c (.bool false))))) .done) K109_13
@[simp] def W109_14 := @C.wpe _ _ K109_14.eq_1
def K109_15 : C := .cond 8 (.v 14) (.exit 3) (.skip)
@[simp] def W109_15 := @C.wpe _ _ K109_15.eq_1
def K109_16 : Pl := .st (.act none (.px (some 14) (.un .not (.v 13)))) .done
@[simp] def W109_16 := @Pl.wpe _ _ K109_16.eq_1
def K109_17 : C := .seq (.block 3 (.seq (.seq (.pl <| .st (.ext 8 7) <|
    .st (.act none (.px (some 8) (.mv (.v 0)))) <|
    .st (.act none (.px (some 9) (.mv (.v 5)))) <|
    .st (.act none (.px (some 10) (.ia 4 (.v 8) (.v 9)))) <|
    .st (.act none (.ld (some 11) (.v 10) (some 4))) <|
    .st (.act none (.px (some 12) (.mv (.v 4)))) <|
    .st (.act none (.ex (some 13) (.call fn_spec_l7On [.v 11, .v 12]))) K109_16) K109_15) K109_14)) K109_3
@[simp] def W109_17 := @C.wpe _ _ K109_17.eq_1
def K109_18 : C := .cond 8 (.v 11) (.skip) (.exit 2)
@[simp] def W109_18 := @C.wpe _ _ K109_18.eq_1
def K109_19 : C := .seq (.seq (.pl <| .st (.ext 8 4) <|
    .st (.act none (.px (some 8) (.mv (.v 5)))) <|
    .st (.act none (.px (some 9) (.mv (.v 0)))) <|
    .st (.act none (.px (some 10) (.lenV (.v 9)))) <|
    .st (.act none (.px (some 11) (.bin .lss (.v 8) (.v 10)))) .done) K109_18) K109_17
@[simp] def W109_19 := @C.wpe _ _ K109_19.eq_1
def K109_20 : C := .block 2 (.loop 8 [3, 6, 7] K109_19)
@[simp] def W109_20 := @C.wpe _ _ K109_20.eq_1
def K109_21 : C := .seq (.block 1 (.seq (.pl <| .st (.ext 8 0) <|
    .st (.act none (.px (some 5) (.mv (.c (.int .i64 0))))) .done) K109_20)) K109_2
@[simp] def W109_21 := @C.wpe _ _ K109_21.eq_1
def K109_22 : C := .cond 8 (.v 9) (.skip) (.exit 0)
@[simp] def W109_22 := @C.wpe _ _ K109_22.eq_1
def K109_23 : C := .seq (.seq (.pl <| .st (.ext 8 2) <|
    .st (.act none (.px (some 8) (.mv (.v 4)))) <|
    .st (.act none (.px (some 9) (.bin .leq (.v 8) (.c (.int .i64 7))))) .done) K109_22) K109_21
@[simp] def W109_23 := @C.wpe _ _ K109_23.eq_1
def K109_24 : C := .block 0 (.loop 8 [3, 5, 6, 7] K109_23)
@[simp] def W109_24 := @C.wpe _ _ K109_24.eq_1
def K109_25 : C := .seq (.seq (.pl <| .st (.ext 8 0) <|
    .st (.act none (.px (some 4) (.mv (.c (.int .i64 0))))) .done) K109_24) K109_1
@[simp] def W109_25 := @C.wpe _ _ K109_25.eq_1
def B_spec_l13Answers : C := .seq (.pl <| .st (.ext 8 0) <|
    .st (.act none (.px (some 3) (.mv (.c (.bool false))))) .done) K109_25
@[simp] def WB_spec_l13Answers := @C.wpe _ _ B_spec_l13Answers.eq_1
def R_spec_l13Answers : FIR := ⟨B_spec_l13Answers, 8, [(3, none)]⟩
theorem IR_spec_l13Answers : cfun Try.prog H_spec_l13Answers Try.f109 = some R_spec_l13Answers := by kernel_rfl
theorem EN_spec_l13Answers {args : List Value} {h : Heap} {k : Value → Heap → Prop} (hargs : args.length = 3) (hw : B_spec_l13Answers.wp Try.prog (retQ [(3, none)] k) (env0 args 8) h) : CallE Try.prog fn_spec_l13Answers args h k := enter Try.func109 rfl IR_spec_l13Answers hargs hw

def H_spec_l13Leaving : Hint := ⟨[(0, false), (1, true), (2, false), (3, false), (4, false)], [[0, 2]]⟩
def K108_1 : C := .seq (.pl <| .st (.ext 5 1) <|
    .st (.act none (.px (some 5) (.mv (.v 3)))) <|
    .st (.act none (.px (some 2) (.mv (.v 5)))) .done) (.ret)
@[simp] def W108_1 := @C.wpe _ _ K108_1.eq_1
def K108_2 : C := .pl <| .st (.ext 5 2) <|
    .st (.act none (.px (some 5) (.mv (.v 4)))) <|
    .st (.act none (.px (some 6) (.bin .add (.v 5) (.c (.int .i64 1))))) <|
    .st (.act none (.px (some 4) (.mv (.v 6)))) .done
@[simp] def W108_2 := @C.wpe _ _ K108_2.eq_1
def K108_3 : Pl := .st (.re 11 (.v 10) none none) <|
    .st (.act none (.px (some 28) (.ia 1 (.v 5) (.v 11)))) <|
    .st (.act none (.ex none (.store 1 (.v 28) (.v 27)))) .done
@[simp] def W108_3 := @Pl.wpe _ _ K108_3.eq_1
def K108_4 : C := .seq (.block 1 (.pl <| .st (.ext 5 24) <|
    .st (.act none (.px (some 5) (.mv (.v 3)))) <|
    .st (.act none (.als 6 none 1)) <|
    .st (.act none (.pget (some 7) (some 6) 1 2 none)) <|
    .st (.act none (.px (some 8) (.mv (.v 4)))) <|
    .st (.act none (.px (some 9) (.ia 4 (.v 7) (.v 8)))) <|
    .st (.act none (.px (some 10) (.fa 0 (.v 9)))) <|
    .st (.act none (.ld (some 11) (.v 10) none)) <|
    .st (.act none (.px (some 12) (.mv (.v 3)))) <|
    .st (.act none (.als 13 none 1)) <|
    .st (.act none (.pget (some 14) (some 13) 1 2 none)) <|
    .st (.act none (.px (some 15) (.mv (.v 4)))) <|
    .st (.act none (.px (some 16) (.ia 4 (.v 14) (.v 15)))) <|
    .st (.act none (.px (some 17) (.fa 0 (.v 16)))) <|
    .st (.act none (.ld (some 18) (.v 17) none)) <|
    .st (.act none (.px (some 19) (.ia 1 (.v 12) (.v 18)))) <|
    .st (.act none (.ld (some 20) (.v 19) none)) <|
    .st (.act none (.als 21 none 1)) <|
    .st (.act none (.pget (some 22) (some 21) 1 2 none)) <|
    .st (.act none (.px (some 23) (.mv (.v 4)))) <|
    .st (.act none (.px (some 24) (.ia 4 (.v 22) (.v 23)))) <|
    .st (.act none (.ld (some 25) (.v 24) (some 4))) <|
    .st (.act none (.psl 26 [.int .i64 0, .int .i64 0, .int .i64 0, .int .i64 0] [(0, 4, .v 25)])) <|
    .st (.act none (.ex (some 27) (.app 32 4 [.int .i64 0, .int .i64 0, .int .i64 0, .int .i64 0] (.o (.v 20)) (.p 1 26)))) K108_3)) K108_2
@[simp] def W108_4 := @C.wpe _ _ K108_4.eq_1
def K108_5 : C := .cond 5 (.v 9) (.skip) (.exit 0)
@[simp] def W108_5 := @C.wpe _ _ K108_5.eq_1
def K108_6 : C := .seq (.seq (.pl <| .st (.ext 5 5) <|
    .st (.act none (.px (some 5) (.mv (.v 4)))) <|
    .st (.act none (.als 6 none 1)) <|
    .st (.act none (.pget (some 7) (some 6) 1 2 none)) <|
    .st (.act none (.px (some 8) (.lenV (.v 7)))) <|
    .st (.act none (.px (some 9) (.bin .lss (.v 5) (.v 8)))) .done) K108_5) K108_4
@[simp] def W108_6 := @C.wpe _ _ K108_6.eq_1
def K108_7 : C := .block 0 (.loop 5 [0, 2] K108_6)
@[simp] def W108_7 := @C.wpe _ _ K108_7.eq_1
def K108_8 : C := .seq (.seq (.pl <| .st (.ext 5 0) <|
    .st (.act none (.px (some 4) (.mv (.c (.int .i64 0))))) .done) K108_7) K108_1
@[simp] def W108_8 := @C.wpe _ _ K108_8.eq_1
def K108_9 : Pl := .st (.act none (.px (some 3) (.mv (.v 8)))) .done
@[simp] def W108_9 := @Pl.wpe _ _ K108_9.eq_1
def K108_10 : C := .seq (.pl <| .st (.ext 5 4) <|
    .st (.act none (.als 5 none 1)) <|
    .st (.act none (.pget (some 6) (some 5) 1 1 none)) <|
    .st (.act none (.px (some 7) (.lenV (.v 6)))) <|
    .st (.act none (.ex (some 8) (.mks 24 1 [.slice none 0 0] (.v 7) (.v 7)))) K108_9) K108_8
@[simp] def W108_10 := @C.wpe _ _ K108_10.eq_1
def B_spec_l13Leaving : C := .seq (.pl <| .st (.ext 5 0) <|
    .st (.act none (.pnew 1 (.v 0) [])) <|
    .st (.act none (.px (some 2) (.mv (.c (.slice none 0 0))))) .done) K108_10
@[simp] def WB_spec_l13Leaving := @C.wpe _ _ B_spec_l13Leaving.eq_1
def R_spec_l13Leaving : FIR := ⟨B_spec_l13Leaving, 5, [(2, none)]⟩
theorem IR_spec_l13Leaving : cfun Try.prog H_spec_l13Leaving Try.f108 = some R_spec_l13Leaving := by kernel_rfl
theorem EN_spec_l13Leaving {args : List Value} {h : Heap} {k : Value → Heap → Prop} (hargs : args.length = 1) (hw : B_spec_l13Leaving.wp Try.prog (retQ [(2, none)] k) (env0 args 5) h) : CallE Try.prog fn_spec_l13Leaving args h k := enter Try.func108 rfl IR_spec_l13Leaving hargs hw

def H_spec_l13Merge : Hint := ⟨[(0, false), (1, true), (2, true), (3, false), (4, false), (5, true), (6, false), (7, false), (8, false), (9, false), (10, true), (11, false), (12, false)], [[0, 7, 8, 9, 10, 11, 12], [0, 8, 9, 10, 11, 12], [0, 3, 6, 7, 9, 10, 11, 12], [0, 3, 6, 7, 8, 10, 11, 12], [0, 3, 6, 7, 8]]⟩
def K49_1 : C := .seq (.pl <| .st (.ext 13 1) <|
    .st (.act none (.pget (some 13) none 5 0 (some 3))) <|
    .st (.act none (.pset none 2 0 3 (.v 13))) .done) (.ret)
@[simp] def W49_1 := @C.wpe _ _ K49_1.eq_1
def K49_2 : C := .pl <| .st (.ext 13 2) <|
    .st (.act none (.px (some 13) (.mv (.v 9)))) <|
    .st (.act none (.px (some 14) (.bin .add (.v 13) (.c (.int .i64 1))))) <|
    .st (.act none (.px (some 9) (.mv (.v 14)))) .done
@[simp] def W49_2 := @C.wpe _ _ K49_2.eq_1
def K49_3 : Pl := .st (.act none (.als 18 none 5)) <|
    .st (.act none (.pset (some 18) 5 2 1 (.v 17))) .done
@[simp] def W49_3 := @Pl.wpe _ _ K49_3.eq_1
def K49_4 : C := .pl <| .st (.ext 13 6) <|
    .st (.act none (.als 13 none 5)) <|
    .st (.act none (.pget (some 14) (some 13) 5 2 none)) <|
    .st (.act none (.pget (some 15) none 10 0 (some 4))) <|
    .st (.act none (.psl 16 [.int .i64 0, .int .i64 0, .int .i64 0, .int .i64 0] [(0, 4, .v 15)])) <|
    .st (.act none (.ex (some 17) (.app 32 4 [.int .i64 0, .int .i64 0, .int .i64 0, .int .i64 0] (.o (.v 14)) (.p 1 16)))) K49_3
@[simp] def W49_4 := @C.wpe _ _ K49_4.eq_1
def K49_5 : C := .cond 13 (.v 14) K49_4 (.skip)
@[simp] def W49_5 := @C.wpe _ _ K49_5.eq_1
def K49_6 : C := .seq (.pl <| .st (.ext 13 2) <|
    .st (.act none (.px (some 13) (.mv (.v 11)))) <|
    .st (.act none (.px (some 14) (.un .not (.v 13)))) .done) K49_5
@[simp] def W49_6 := @C.wpe _ _ K49_6.eq_1
def K49_7 : C := .pl <| .st (.ext 13 2) <|
    .st (.act none (.px (some 13) (.mv (.v 12)))) <|
    .st (.act none (.px (some 14) (.bin .add (.v 13) (.c (.int .i64 1))))) <|
    .st (.act none (.px (some 12) (.mv (.v 14)))) .done
@[simp] def W49_7 := @C.wpe _ _ K49_7.eq_1
def K49_8 : C := .seq (.block 9 (.pl <| .st (.ext 13 10) <|
    .st (.act none (.px (some 13) (.mv (.v 11)))) <|
    .st (.act none (.px (some 14) (.mv (.v 13)))) <|
    .st (.act (some (.v 14, false)) (.als 15 none 5)) <|
    .st (.act (some (.v 14, false)) (.pget (some 16) (some 15) 5 2 none)) <|
    .st (.act (some (.v 14, false)) (.px (some 17) (.mv (.v 12)))) <|
    .st (.act (some (.v 14, false)) (.px (some 18) (.ia 4 (.v 16) (.v 17)))) <|
    .st (.act (some (.v 14, false)) (.ld (some 19) (.v 18) (some 4))) <|
    .st (.act (some (.v 14, false)) (.pget (some 20) none 10 0 (some 4))) <|
    .st (.act (some (.v 14, false)) (.px (some 21) (.eqf false [.i, .i, .i, .i] (.v 19) (.v 20)))) <|
    .st (.act none (.px (some 22) (.pick (.v 14) (.c (.bool true)) (.v 21)))) <|
    .st (.act none (.px (some 11) (.mv (.v 22)))) .done)) K49_7
@[simp] def W49_8 := @C.wpe _ _ K49_8.eq_1
def K49_9 : C := .cond 13 (.v 17) (.skip) (.exit 8)
@[simp] def W49_9 := @C.wpe _ _ K49_9.eq_1
def K49_10 : C := .seq (.seq (.pl <| .st (.ext 13 5) <|
    .st (.act none (.px (some 13) (.mv (.v 12)))) <|
    .st (.act none (.als 14 none 5)) <|
    .st (.act none (.pget (some 15) (some 14) 5 2 none)) <|
    .st (.act none (.px (some 16) (.lenV (.v 15)))) <|
    .st (.act none (.px (some 17) (.bin .lss (.v 13) (.v 16)))) .done) K49_9) K49_8
@[simp] def W49_10 := @C.wpe _ _ K49_10.eq_1
def K49_11 : C := .block 8 (.loop 13 [0, 3, 6, 7, 8] K49_10)
@[simp] def W49_11 := @C.wpe _ _ K49_11.eq_1
def K49_12 : C := .seq (.seq (.pl <| .st (.ext 13 0) <|
    .st (.act none (.px (some 12) (.mv (.c (.int .i64 0))))) .done) K49_11) K49_6
@[simp] def W49_12 := @C.wpe _ _ K49_12.eq_1
def K49_13 : C := .seq (.pl <| .st (.ext 13 0) <|
    .st (.act none (.px (some 11) (.mv (.c (.bool false))))) .done) K49_12
@[simp] def W49_13 := @C.wpe _ _ K49_13.eq_1
def K49_14 : C := .seq (.block 7 (.seq (.pl <| .st (.ext 13 31) <|
    .st (.act none (.px (some 13) (.mv (.v 4)))) <|
    .st (.act none (.als 14 none 1)) <|
    .st (.act none (.pget (some 15) (some 14) 1 2 none)) <|
    .st (.act none (.px (some 16) (.mv (.v 9)))) <|
    .st (.act none (.px (some 17) (.ia 4 (.v 15) (.v 16)))) <|
    .st (.act none (.px (some 18) (.fa 0 (.v 17)))) <|
    .st (.act none (.ld (some 19) (.v 18) none)) <|
    .st (.act none (.px (some 20) (.ia 1 (.v 13) (.v 19)))) <|
    .st (.act none (.ld (some 21) (.v 20) none)) <|
    .st (.act none (.als 22 none 1)) <|
    .st (.act none (.pget (some 23) (some 22) 1 2 none)) <|
    .st (.act none (.px (some 24) (.mv (.v 9)))) <|
    .st (.act none (.px (some 25) (.ia 4 (.v 23) (.v 24)))) <|
    .st (.act none (.px (some 26) (.fa 1 (.v 25)))) <|
    .st (.act none (.ld (some 27) (.v 26) none)) <|
    .st (.act none (.als 28 none 1)) <|
    .st (.act none (.pget (some 29) (some 28) 1 2 none)) <|
    .st (.act none (.px (some 30) (.mv (.v 9)))) <|
    .st (.act none (.px (some 31) (.ia 4 (.v 29) (.v 30)))) <|
    .st (.act none (.px (some 32) (.fa 2 (.v 31)))) <|
    .st (.act none (.ld (some 33) (.v 32) none)) <|
    .st (.act none (.px (some 34) (.mv (.v 4)))) <|
    .st (.act none (.als 35 none 1)) <|
    .st (.act none (.pget (some 36) (some 35) 1 2 none)) <|
    .st (.act none (.px (some 37) (.mv (.v 9)))) <|
    .st (.act none (.px (some 38) (.ia 4 (.v 36) (.v 37)))) <|
    .st (.act none (.px (some 39) (.fa 3 (.v 38)))) <|
    .st (.act none (.ld (some 40) (.v 39) none)) <|
    .st (.act none (.px (some 41) (.ia 1 (.v 34) (.v 40)))) <|
    .st (.act none (.ld (some 42) (.v 41) none)) <|
    .st (.act none (.px (some 43) (.build [.int .i64 0, .int .i64 0, .int .i64 0, .int .i64 0] [(0, 1, .v 21), (1, 1, .v 27), (2, 1, .v 33), (3, 1, .v 42)]))) <|
    .st (.act none (.pnew 10 (.c (.agg #[.int .i64 0, .int .i64 0, .int .i64 0, .int .i64 0])) [])) <|
    .st (.act none (.pset none 10 0 4 (.v 43))) .done) K49_13)) K49_2
@[simp] def W49_14 := @C.wpe _ _ K49_14.eq_1
def K49_15 : C := .cond 13 (.v 17) (.skip) (.exit 6)
@[simp] def W49_15 := @C.wpe _ _ K49_15.eq_1
def K49_16 : C := .seq (.seq (.pl <| .st (.ext 13 5) <|
    .st (.act none (.px (some 13) (.mv (.v 9)))) <|
    .st (.act none (.als 14 none 1)) <|
    .st (.act none (.pget (some 15) (some 14) 1 2 none)) <|
    .st (.act none (.px (some 16) (.lenV (.v 15)))) <|
    .st (.act none (.px (some 17) (.bin .lss (.v 13) (.v 16)))) .done) K49_15) K49_14
@[simp] def W49_16 := @C.wpe _ _ K49_16.eq_1
def K49_17 : C := .block 6 (.loop 13 [0, 3, 6, 7, 8, 10, 11, 12] K49_16)
@[simp] def W49_17 := @C.wpe _ _ K49_17.eq_1
def K49_18 : C := .seq (.seq (.pl <| .st (.ext 13 0) <|
    .st (.act none (.px (some 9) (.mv (.c (.int .i64 0))))) .done) K49_17) K49_1
@[simp] def W49_18 := @C.wpe _ _ K49_18.eq_1
def K49_19 : C := .pl <| .st (.ext 13 2) <|
    .st (.act none (.px (some 13) (.mv (.v 8)))) <|
    .st (.act none (.px (some 14) (.bin .add (.v 13) (.c (.int .i64 1))))) <|
    .st (.act none (.px (some 8) (.mv (.v 14)))) .done
@[simp] def W49_19 := @C.wpe _ _ K49_19.eq_1
def K49_20 : Pl := .st (.act none (.als 24 none 5)) <|
    .st (.act none (.pset (some 24) 5 0 1 (.v 23))) .done
@[simp] def W49_20 := @Pl.wpe _ _ K49_20.eq_1
def K49_21 : C := .seq (.block 5 (.pl <| .st (.ext 13 12) <|
    .st (.act none (.als 13 none 5)) <|
    .st (.act none (.pget (some 14) (some 13) 5 0 none)) <|
    .st (.act none (.px (some 15) (.mv (.v 4)))) <|
    .st (.act none (.als 16 none 1)) <|
    .st (.act none (.pget (some 17) (some 16) 1 0 none)) <|
    .st (.act none (.px (some 18) (.mv (.v 8)))) <|
    .st (.act none (.px (some 19) (.ia 1 (.v 17) (.v 18)))) <|
    .st (.act none (.ld (some 20) (.v 19) none)) <|
    .st (.act none (.px (some 21) (.ia 1 (.v 15) (.v 20)))) <|
    .st (.act none (.ld (some 22) (.v 21) none)) <|
    .st (.act none (.ex (some 23) (.call fn_spec_l10Sorted [.v 14, .v 22]))) K49_20)) K49_19
@[simp] def W49_21 := @C.wpe _ _ K49_21.eq_1
def K49_22 : C := .cond 13 (.v 17) (.skip) (.exit 4)
@[simp] def W49_22 := @C.wpe _ _ K49_22.eq_1
def K49_23 : C := .seq (.seq (.pl <| .st (.ext 13 5) <|
    .st (.act none (.px (some 13) (.mv (.v 8)))) <|
    .st (.act none (.als 14 none 1)) <|
    .st (.act none (.pget (some 15) (some 14) 1 0 none)) <|
    .st (.act none (.px (some 16) (.lenV (.v 15)))) <|
    .st (.act none (.px (some 17) (.bin .lss (.v 13) (.v 16)))) .done) K49_22) K49_21
@[simp] def W49_23 := @C.wpe _ _ K49_23.eq_1
def K49_24 : C := .block 4 (.loop 13 [0, 3, 6, 7, 9, 10, 11, 12] K49_23)
@[simp] def W49_24 := @C.wpe _ _ K49_24.eq_1
def K49_25 : C := .seq (.seq (.pl <| .st (.ext 13 0) <|
    .st (.act none (.px (some 8) (.mv (.c (.int .i64 0))))) .done) K49_24) K49_18
@[simp] def W49_25 := @C.wpe _ _ K49_25.eq_1
def K49_26 : C := .pl <| .st (.ext 13 2) <|
    .st (.act none (.px (some 13) (.mv (.v 6)))) <|
    .st (.act none (.px (some 14) (.bin .add (.v 13) (.c (.int .i64 1))))) <|
    .st (.act none (.px (some 6) (.mv (.v 14)))) .done
@[simp] def W49_26 := @C.wpe _ _ K49_26.eq_1
def K49_27 : Pl := .st (.act none (.px (some 4) (.mv (.v 19)))) .done
@[simp] def W49_27 := @Pl.wpe _ _ K49_27.eq_1
def K49_28 : C := .pl <| .st (.ext 13 7) <|
    .st (.act none (.px (some 13) (.mv (.v 4)))) <|
    .st (.act none (.px (some 14) (.mv (.v 4)))) <|
    .st (.act none (.px (some 15) (.mv (.v 7)))) <|
    .st (.act none (.px (some 16) (.ia 1 (.v 14) (.v 15)))) <|
    .st (.act none (.ld (some 17) (.v 16) none)) <|
    .st (.act none (.psl 18 [.int .i64 0] [(0, 1, .v 17)])) <|
    .st (.act none (.ex (some 19) (.app 8 1 [.int .i64 0] (.o (.v 13)) (.p 1 18)))) K49_27
@[simp] def W49_28 := @C.wpe _ _ K49_28.eq_1
def K49_29 : Pl := .st (.act none (.als 22 none 5)) <|
    .st (.act none (.pset (some 22) 5 1 1 (.v 21))) .done
@[simp] def W49_29 := @Pl.wpe _ _ K49_29.eq_1
def K49_30 : C := .pl <| .st (.ext 13 10) <|
    .st (.act none (.als 13 none 5)) <|
    .st (.act none (.pget (some 14) (some 13) 5 1 none)) <|
    .st (.act none (.als 15 none 1)) <|
    .st (.act none (.pget (some 16) (some 15) 1 1 none)) <|
    .st (.act none (.px (some 17) (.mv (.v 6)))) <|
    .st (.act none (.px (some 18) (.ia 1 (.v 16) (.v 17)))) <|
    .st (.act none (.ld (some 19) (.v 18) none)) <|
    .st (.act none (.psl 20 [.bool false] [(0, 1, .v 19)])) <|
    .st (.act none (.ex (some 21) (.app 1 1 [.bool false] (.o (.v 14)) (.p 1 20)))) K49_29
@[simp] def W49_30 := @C.wpe _ _ K49_30.eq_1
def K49_31 : Pl := .st (.act none (.px (some 4) (.mv (.v 18)))) .done
@[simp] def W49_31 := @Pl.wpe _ _ K49_31.eq_1
def K49_32 : C := .seq (.pl <| .st (.ext 13 6) <|
    .st (.act none (.px (some 13) (.mv (.v 4)))) <|
    .st (.act none (.als 14 none 5)) <|
    .st (.act none (.pget (some 15) (some 14) 5 1 none)) <|
    .st (.act none (.px (some 16) (.lenV (.v 15)))) <|
    .st (.act none (.psl 17 [.int .i64 0] [(0, 1, .v 16)])) <|
    .st (.act none (.ex (some 18) (.app 8 1 [.int .i64 0] (.o (.v 13)) (.p 1 17)))) K49_31) K49_30
@[simp] def W49_32 := @C.wpe _ _ K49_32.eq_1
def K49_33 : C := .cond 13 (.v 15) K49_28 K49_32
@[simp] def W49_33 := @C.wpe _ _ K49_33.eq_1
def K49_34 : C := .seq (.pl <| .st (.ext 13 3) <|
    .st (.act none (.px (some 13) (.mv (.v 7)))) <|
    .st (.act none (.px (some 14) (.mv (.v 6)))) <|
    .st (.act none (.px (some 15) (.bin .lss (.v 13) (.v 14)))) .done) K49_33
@[simp] def W49_34 := @C.wpe _ _ K49_34.eq_1
def K49_35 : C := .block 3 (.pl <| .st (.ext 13 2) <|
    .st (.act none (.px (some 13) (.mv (.v 7)))) <|
    .st (.act none (.px (some 14) (.bin .add (.v 13) (.c (.int .i64 1))))) <|
    .st (.act none (.px (some 7) (.mv (.v 14)))) .done)
@[simp] def W49_35 := @C.wpe _ _ K49_35.eq_1
def K49_36 : C := .cond 13 (.v 34) (.skip) (.exit 2)
@[simp] def W49_36 := @C.wpe _ _ K49_36.eq_1
def K49_37 : C := .seq (.seq (.pl <| .st (.ext 13 22) <|
    .st (.act none (.px (some 13) (.mv (.v 7)))) <|
    .st (.act none (.px (some 14) (.mv (.v 6)))) <|
    .st (.act none (.px (some 15) (.bin .lss (.v 13) (.v 14)))) <|
    .st (.act none (.px (some 16) (.mv (.v 15)))) <|
    .st (.act (some (.v 16, true)) (.px (some 17) (.mv (.v 3)))) <|
    .st (.act (some (.v 16, true)) (.px (some 18) (.mv (.v 6)))) <|
    .st (.act (some (.v 16, true)) (.px (some 19) (.ia 1 (.v 17) (.v 18)))) <|
    .st (.act (some (.v 16, true)) (.ld (some 20) (.v 19) none)) <|
    .st (.act (some (.v 16, true)) (.px (some 21) (.mv (.v 7)))) <|
    .st (.act (some (.v 16, true)) (.px (some 22) (.ia 1 (.v 20) (.v 21)))) <|
    .st (.act (some (.v 16, true)) (.ld (some 23) (.v 22) none)) <|
    .st (.act (some (.v 16, true)) (.px (some 24) (.mv (.v 23)))) <|
    .st (.act (some (.v 24, true)) (.px (some 25) (.mv (.v 3)))) <|
    .st (.act (some (.v 24, true)) (.px (some 26) (.mv (.v 7)))) <|
    .st (.act (some (.v 24, true)) (.px (some 27) (.ia 1 (.v 25) (.v 26)))) <|
    .st (.act (some (.v 24, true)) (.ld (some 28) (.v 27) none)) <|
    .st (.act (some (.v 24, true)) (.px (some 29) (.mv (.v 6)))) <|
    .st (.act (some (.v 24, true)) (.px (some 30) (.ia 1 (.v 28) (.v 29)))) <|
    .st (.act (some (.v 24, true)) (.ld (some 31) (.v 30) none)) <|
    .st (.act (some (.v 16, true)) (.px (some 32) (.pick (.v 24) (.v 31) (.c (.bool false))))) <|
    .st (.act (some (.v 16, true)) (.px (some 33) (.un .not (.v 32)))) <|
    .st (.act none (.px (some 34) (.pick (.v 16) (.v 33) (.c (.bool false))))) .done) K49_36) K49_35
@[simp] def W49_37 := @C.wpe _ _ K49_37.eq_1
def K49_38 : C := .seq (.block 2 (.loop 13 [0, 8, 9, 10, 11, 12] K49_37)) K49_34
@[simp] def W49_38 := @C.wpe _ _ K49_38.eq_1
def K49_39 : C := .seq (.block 1 (.seq (.pl <| .st (.ext 13 0) <|
    .st (.act none (.px (some 7) (.mv (.c (.int .i64 0))))) .done) K49_38)) K49_26
@[simp] def W49_39 := @C.wpe _ _ K49_39.eq_1
def K49_40 : C := .cond 13 (.v 16) (.skip) (.exit 0)
@[simp] def W49_40 := @C.wpe _ _ K49_40.eq_1
def K49_41 : C := .seq (.seq (.pl <| .st (.ext 13 4) <|
    .st (.act none (.px (some 13) (.mv (.v 6)))) <|
    .st (.act none (.px (some 14) (.mv (.v 3)))) <|
    .st (.act none (.px (some 15) (.lenV (.v 14)))) <|
    .st (.act none (.px (some 16) (.bin .lss (.v 13) (.v 15)))) .done) K49_40) K49_39
@[simp] def W49_41 := @C.wpe _ _ K49_41.eq_1
def K49_42 : C := .block 0 (.loop 13 [0, 7, 8, 9, 10, 11, 12] K49_41)
@[simp] def W49_42 := @C.wpe _ _ K49_42.eq_1
def K49_43 : C := .seq (.seq (.pl <| .st (.ext 13 0) <|
    .st (.act none (.px (some 6) (.mv (.c (.int .i64 0))))) .done) K49_42) K49_25
@[simp] def W49_43 := @C.wpe _ _ K49_43.eq_1
def K49_44 : C := .seq (.pl <| .st (.ext 13 1) <|
    .st (.act none (.px (some 13) (.build [.slice none 0 0, .slice none 0 0, .slice none 0 0] []))) <|
    .st (.act none (.pnew 5 (.c (.agg #[.slice none 0 0, .slice none 0 0, .slice none 0 0])) [])) <|
    .st (.act none (.pset none 5 0 3 (.v 13))) .done) K49_43
@[simp] def W49_44 := @C.wpe _ _ K49_44.eq_1
def K49_45 : Pl := .st (.act none (.px (some 4) (.mv (.v 13)))) .done
@[simp] def W49_45 := @Pl.wpe _ _ K49_45.eq_1
def K49_46 : C := .seq (.pl <| .st (.ext 13 1) <|
    .st (.act none (.ex (some 13) (.bls 1 0 [.int .i64 0] []))) K49_45) K49_44
@[simp] def W49_46 := @C.wpe _ _ K49_46.eq_1
def K49_47 : Pl := .st (.act none (.px (some 3) (.mv (.v 14)))) .done
@[simp] def W49_47 := @Pl.wpe _ _ K49_47.eq_1
def K49_48 : C := .seq (.pl <| .st (.ext 13 2) <|
    .st (.act none (.pget (some 13) none 1 0 (some 3))) <|
    .st (.act none (.ex (some 14) (.call fn_spec_l13Relation [.v 13]))) K49_47) K49_46
@[simp] def W49_48 := @C.wpe _ _ K49_48.eq_1
def B_spec_l13Merge : C := .seq (.pl <| .st (.ext 13 0) <|
    .st (.act none (.pnew 1 (.v 0) [])) <|
    .st (.act none (.pnew 2 (.c (.agg #[.slice none 0 0, .slice none 0 0, .slice none 0 0])) [])) .done) K49_48
@[simp] def WB_spec_l13Merge := @C.wpe _ _ B_spec_l13Merge.eq_1
def R_spec_l13Merge : FIR := ⟨B_spec_l13Merge, 13, [(2, some (some 3))]⟩
theorem IR_spec_l13Merge : cfun Try.prog H_spec_l13Merge Try.f49 = some R_spec_l13Merge := by kernel_rfl
theorem EN_spec_l13Merge {args : List Value} {h : Heap} {k : Value → Heap → Prop} (hargs : args.length = 1) (hw : B_spec_l13Merge.wp Try.prog (retQ [(2, some (some 3))] k) (env0 args 13) h) : CallE Try.prog fn_spec_l13Merge args h k := enter Try.func49 rfl IR_spec_l13Merge hargs hw

def H_spec_l13Relation : Hint := ⟨[(0, false), (1, true), (2, false), (3, false), (4, false), (5, false), (6, false), (7, false), (8, false), (9, false), (10, false), (11, false)], [[0, 2, 6, 7, 8, 9, 10, 11], [0, 2, 8, 9, 10, 11], [0, 1, 2, 5, 6, 7, 10, 11], [0, 1, 2, 5, 6, 7, 11], [0, 1, 2, 5, 6, 7]]⟩
def K80_1 : C := .seq (.pl <| .st (.ext 12 1) <|
    .st (.act none (.px (some 12) (.mv (.v 4)))) <|
    .st (.act none (.px (some 2) (.mv (.v 12)))) .done) (.ret)
@[simp] def W80_1 := @C.wpe _ _ K80_1.eq_1
def K80_2 : C := .pl <| .st (.ext 12 2) <|
    .st (.act none (.px (some 12) (.mv (.v 10)))) <|
    .st (.act none (.px (some 13) (.bin .add (.v 12) (.c (.int .i64 1))))) <|
    .st (.act none (.px (some 10) (.mv (.v 13)))) .done
@[simp] def W80_2 := @C.wpe _ _ K80_2.eq_1
def K80_3 : C := .pl <| .st (.ext 12 2) <|
    .st (.act none (.px (some 12) (.mv (.v 11)))) <|
    .st (.act none (.px (some 13) (.bin .add (.v 12) (.c (.int .i64 1))))) <|
    .st (.act none (.px (some 11) (.mv (.v 13)))) .done
@[simp] def W80_3 := @C.wpe _ _ K80_3.eq_1
def K80_4 : C := .pl <| .st (.ext 12 0) <|
    .st (.act none (.px (some 9) (.mv (.c (.bool true))))) .done
@[simp] def W80_4 := @C.wpe _ _ K80_4.eq_1
def K80_5 : C := .seq (.pl <| .st (.ext 12 6) <|
    .st (.act none (.px (some 12) (.mv (.v 4)))) <|
    .st (.act none (.px (some 13) (.mv (.v 10)))) <|
    .st (.act none (.px (some 14) (.ia 1 (.v 12) (.v 13)))) <|
    .st (.act none (.ld (some 15) (.v 14) none)) <|
    .st (.act none (.px (some 16) (.mv (.v 11)))) <|
    .st (.act none (.px (some 17) (.ia 1 (.v 15) (.v 16)))) <|
    .st (.act none (.ex none (.store 1 (.v 17) (.c (.bool false))))) .done) K80_4
@[simp] def W80_5 := @C.wpe _ _ K80_5.eq_1
def K80_6 : C := .cond 12 (.v 31) K80_5 (.skip)
@[simp] def W80_6 := @C.wpe _ _ K80_6.eq_1
def K80_7 : Pl := .st (.act (some (.v 19, true)) (.px (some 30) (.un .not (.v 29)))) <|
    .st (.act none (.px (some 31) (.pick (.v 19) (.v 30) (.c (.bool false))))) .done
@[simp] def W80_7 := @Pl.wpe _ _ K80_7.eq_1
def K80_8 : C := .seq (.block 9 (.seq (.pl <| .st (.ext 12 20) <|
    .st (.act none (.px (some 12) (.mv (.v 4)))) <|
    .st (.act none (.px (some 13) (.mv (.v 10)))) <|
    .st (.act none (.px (some 14) (.ia 1 (.v 12) (.v 13)))) <|
    .st (.act none (.ld (some 15) (.v 14) none)) <|
    .st (.act none (.px (some 16) (.mv (.v 11)))) <|
    .st (.act none (.px (some 17) (.ia 1 (.v 15) (.v 16)))) <|
    .st (.act none (.ld (some 18) (.v 17) none)) <|
    .st (.act none (.px (some 19) (.mv (.v 18)))) <|
    .st (.act (some (.v 19, true)) (.px (some 20) (.mv (.v 8)))) <|
    .st (.act (some (.v 19, true)) (.px (some 21) (.mv (.v 10)))) <|
    .st (.act (some (.v 19, true)) (.px (some 22) (.ia 1 (.v 20) (.v 21)))) <|
    .st (.act (some (.v 19, true)) (.ld (some 23) (.v 22) none)) <|
    .st (.act (some (.v 19, true)) (.px (some 24) (.mv (.v 8)))) <|
    .st (.act (some (.v 19, true)) (.px (some 25) (.mv (.v 11)))) <|
    .st (.act (some (.v 19, true)) (.px (some 26) (.ia 1 (.v 24) (.v 25)))) <|
    .st (.act (some (.v 19, true)) (.ld (some 27) (.v 26) none)) <|
    .st (.act (some (.v 19, true)) (.px (some 28) (.mv (.v 4)))) <|
    .st (.act (some (.v 19, true)) (.ex (some 29) (.call fn_spec_l13Answers [.v 23, .v 27, .v 28]))) K80_7) K80_6)) K80_3
@[simp] def W80_8 := @C.wpe _ _ K80_8.eq_1
def K80_9 : C := .cond 12 (.v 14) (.skip) (.exit 8)
@[simp] def W80_9 := @C.wpe _ _ K80_9.eq_1
def K80_10 : C := .seq (.seq (.pl <| .st (.ext 12 3) <|
    .st (.act none (.px (some 12) (.mv (.v 11)))) <|
    .st (.act none (.px (some 13) (.mv (.v 3)))) <|
    .st (.act none (.px (some 14) (.bin .lss (.v 12) (.v 13)))) .done) K80_9) K80_8
@[simp] def W80_10 := @C.wpe _ _ K80_10.eq_1
def K80_11 : C := .block 8 (.loop 12 [0, 1, 2, 5, 6, 7] K80_10)
@[simp] def W80_11 := @C.wpe _ _ K80_11.eq_1
def K80_12 : C := .seq (.block 7 (.seq (.pl <| .st (.ext 12 0) <|
    .st (.act none (.px (some 11) (.mv (.c (.int .i64 0))))) .done) K80_11)) K80_2
@[simp] def W80_12 := @C.wpe _ _ K80_12.eq_1
def K80_13 : C := .cond 12 (.v 14) (.skip) (.exit 6)
@[simp] def W80_13 := @C.wpe _ _ K80_13.eq_1
def K80_14 : C := .seq (.seq (.pl <| .st (.ext 12 3) <|
    .st (.act none (.px (some 12) (.mv (.v 10)))) <|
    .st (.act none (.px (some 13) (.mv (.v 3)))) <|
    .st (.act none (.px (some 14) (.bin .lss (.v 12) (.v 13)))) .done) K80_13) K80_12
@[simp] def W80_14 := @C.wpe _ _ K80_14.eq_1
def K80_15 : C := .block 6 (.loop 12 [0, 1, 2, 5, 6, 7, 11] K80_14)
@[simp] def W80_15 := @C.wpe _ _ K80_15.eq_1
def K80_16 : C := .seq (.pl <| .st (.ext 12 0) <|
    .st (.act none (.px (some 10) (.mv (.c (.int .i64 0))))) .done) K80_15
@[simp] def W80_16 := @C.wpe _ _ K80_16.eq_1
def K80_17 : C := .block 5 (.seq (.pl <| .st (.ext 12 0) <|
    .st (.act none (.px (some 9) (.mv (.c (.bool false))))) .done) K80_16)
@[simp] def W80_17 := @C.wpe _ _ K80_17.eq_1
def K80_18 : C := .cond 12 (.v 12) (.skip) (.exit 4)
@[simp] def W80_18 := @C.wpe _ _ K80_18.eq_1
def K80_19 : C := .seq (.seq (.pl <| .st (.ext 12 1) <|
    .st (.act none (.px (some 12) (.mv (.v 9)))) .done) K80_18) K80_17
@[simp] def W80_19 := @C.wpe _ _ K80_19.eq_1
def K80_20 : C := .block 4 (.loop 12 [0, 1, 2, 5, 6, 7, 10, 11] K80_19)
@[simp] def W80_20 := @C.wpe _ _ K80_20.eq_1
def K80_21 : C := .seq (.seq (.pl <| .st (.ext 12 0) <|
    .st (.act none (.px (some 9) (.mv (.c (.bool true))))) .done) K80_20) K80_1
@[simp] def W80_21 := @C.wpe _ _ K80_21.eq_1
def K80_22 : Pl := .st (.act none (.px (some 8) (.mv (.v 13)))) .done
@[simp] def W80_22 := @Pl.wpe _ _ K80_22.eq_1
def K80_23 : C := .seq (.pl <| .st (.ext 12 2) <|
    .st (.act none (.pget (some 12) none 1 0 (some 3))) <|
    .st (.act none (.ex (some 13) (.call fn_spec_l13Leaving [.v 12]))) K80_22) K80_21
@[simp] def W80_23 := @C.wpe _ _ K80_23.eq_1
def K80_24 : C := .pl <| .st (.ext 12 2) <|
    .st (.act none (.px (some 12) (.mv (.v 5)))) <|
    .st (.act none (.px (some 13) (.bin .add (.v 12) (.c (.int .i64 1))))) <|
    .st (.act none (.px (some 5) (.mv (.v 13)))) .done
@[simp] def W80_24 := @C.wpe _ _ K80_24.eq_1
def K80_25 : Pl := .st (.act none (.px (some 4) (.mv (.v 15)))) .done
@[simp] def W80_25 := @Pl.wpe _ _ K80_25.eq_1
def K80_26 : C := .pl <| .st (.ext 12 4) <|
    .st (.act none (.px (some 12) (.mv (.v 4)))) <|
    .st (.act none (.px (some 13) (.mv (.v 6)))) <|
    .st (.act none (.psl 14 [.slice none 0 0] [(0, 1, .v 13)])) <|
    .st (.act none (.ex (some 15) (.app 24 1 [.slice none 0 0] (.o (.v 12)) (.p 1 14)))) K80_25
@[simp] def W80_26 := @C.wpe _ _ K80_26.eq_1
def K80_27 : C := .pl <| .st (.ext 12 2) <|
    .st (.act none (.px (some 12) (.mv (.v 7)))) <|
    .st (.act none (.px (some 13) (.bin .add (.v 12) (.c (.int .i64 1))))) <|
    .st (.act none (.px (some 7) (.mv (.v 13)))) .done
@[simp] def W80_27 := @C.wpe _ _ K80_27.eq_1
def K80_28 : Pl := .st (.act none (.px (some 6) (.mv (.v 27)))) .done
@[simp] def W80_28 := @Pl.wpe _ _ K80_28.eq_1
def K80_29 : C := .seq (.block 3 (.pl <| .st (.ext 12 16) <|
    .st (.act none (.px (some 12) (.mv (.v 6)))) <|
    .st (.act none (.als 13 none 1)) <|
    .st (.act none (.pget (some 14) (some 13) 1 1 none)) <|
    .st (.act none (.px (some 15) (.mv (.v 5)))) <|
    .st (.act none (.px (some 16) (.ia 1 (.v 14) (.v 15)))) <|
    .st (.act none (.ld (some 17) (.v 16) none)) <|
    .st (.act none (.px (some 18) (.un .not (.v 17)))) <|
    .st (.act none (.px (some 19) (.mv (.v 18)))) <|
    .st (.act (some (.v 19, false)) (.als 20 none 1)) <|
    .st (.act (some (.v 19, false)) (.pget (some 21) (some 20) 1 1 none)) <|
    .st (.act (some (.v 19, false)) (.px (some 22) (.mv (.v 7)))) <|
    .st (.act (some (.v 19, false)) (.px (some 23) (.ia 1 (.v 21) (.v 22)))) <|
    .st (.act (some (.v 19, false)) (.ld (some 24) (.v 23) none)) <|
    .st (.act none (.px (some 25) (.pick (.v 19) (.c (.bool true)) (.v 24)))) <|
    .st (.act none (.psl 26 [.bool false] [(0, 1, .v 25)])) <|
    .st (.act none (.ex (some 27) (.app 1 1 [.bool false] (.o (.v 12)) (.p 1 26)))) K80_28)) K80_27
@[simp] def W80_29 := @C.wpe _ _ K80_29.eq_1
def K80_30 : C := .cond 12 (.v 14) (.skip) (.exit 2)
@[simp] def W80_30 := @C.wpe _ _ K80_30.eq_1
def K80_31 : C := .seq (.seq (.pl <| .st (.ext 12 3) <|
    .st (.act none (.px (some 12) (.mv (.v 7)))) <|
    .st (.act none (.px (some 13) (.mv (.v 3)))) <|
    .st (.act none (.px (some 14) (.bin .lss (.v 12) (.v 13)))) .done) K80_30) K80_29
@[simp] def W80_31 := @C.wpe _ _ K80_31.eq_1
def K80_32 : C := .block 2 (.loop 12 [0, 2, 8, 9, 10, 11] K80_31)
@[simp] def W80_32 := @C.wpe _ _ K80_32.eq_1
def K80_33 : C := .seq (.seq (.pl <| .st (.ext 12 0) <|
    .st (.act none (.px (some 7) (.mv (.c (.int .i64 0))))) .done) K80_32) K80_26
@[simp] def W80_33 := @C.wpe _ _ K80_33.eq_1
def K80_34 : Pl := .st (.act none (.px (some 6) (.mv (.v 12)))) .done
@[simp] def W80_34 := @Pl.wpe _ _ K80_34.eq_1
def K80_35 : C := .seq (.block 1 (.seq (.pl <| .st (.ext 12 1) <|
    .st (.act none (.ex (some 12) (.bls 1 0 [.bool false] []))) K80_34) K80_33)) K80_24
@[simp] def W80_35 := @C.wpe _ _ K80_35.eq_1
def K80_36 : C := .cond 12 (.v 14) (.skip) (.exit 0)
@[simp] def W80_36 := @C.wpe _ _ K80_36.eq_1
def K80_37 : C := .seq (.seq (.pl <| .st (.ext 12 3) <|
    .st (.act none (.px (some 12) (.mv (.v 5)))) <|
    .st (.act none (.px (some 13) (.mv (.v 3)))) <|
    .st (.act none (.px (some 14) (.bin .lss (.v 12) (.v 13)))) .done) K80_36) K80_35
@[simp] def W80_37 := @C.wpe _ _ K80_37.eq_1
def K80_38 : C := .block 0 (.loop 12 [0, 2, 6, 7, 8, 9, 10, 11] K80_37)
@[simp] def W80_38 := @C.wpe _ _ K80_38.eq_1
def K80_39 : C := .seq (.seq (.pl <| .st (.ext 12 0) <|
    .st (.act none (.px (some 5) (.mv (.c (.int .i64 0))))) .done) K80_38) K80_23
@[simp] def W80_39 := @C.wpe _ _ K80_39.eq_1
def K80_40 : Pl := .st (.act none (.px (some 4) (.mv (.v 12)))) .done
@[simp] def W80_40 := @Pl.wpe _ _ K80_40.eq_1
def K80_41 : C := .seq (.pl <| .st (.ext 12 1) <|
    .st (.act none (.ex (some 12) (.bls 1 0 [.slice none 0 0] []))) K80_40) K80_39
@[simp] def W80_41 := @C.wpe _ _ K80_41.eq_1
def K80_42 : C := .seq (.pl <| .st (.ext 12 3) <|
    .st (.act none (.als 12 none 1)) <|
    .st (.act none (.pget (some 13) (some 12) 1 1 none)) <|
    .st (.act none (.px (some 14) (.lenV (.v 13)))) <|
    .st (.act none (.px (some 3) (.mv (.v 14)))) .done) K80_41
@[simp] def W80_42 := @C.wpe _ _ K80_42.eq_1
def B_spec_l13Relation : C := .seq (.pl <| .st (.ext 12 0) <|
    .st (.act none (.pnew 1 (.v 0) [])) <|
    .st (.act none (.px (some 2) (.mv (.c (.slice none 0 0))))) .done) K80_42
@[simp] def WB_spec_l13Relation := @C.wpe _ _ B_spec_l13Relation.eq_1
def R_spec_l13Relation : FIR := ⟨B_spec_l13Relation, 12, [(2, none)]⟩
theorem IR_spec_l13Relation : cfun Try.prog H_spec_l13Relation Try.f80 = some R_spec_l13Relation := by kernel_rfl
theorem EN_spec_l13Relation {args : List Value} {h : Heap} {k : Value → Heap → Prop} (hargs : args.length = 1) (hw : B_spec_l13Relation.wp Try.prog (retQ [(2, none)] k) (env0 args 12) h) : CallE Try.prog fn_spec_l13Relation args h k := enter Try.func80 rfl IR_spec_l13Relation hargs hw

def H_spec_l7On : Hint := ⟨[(0, false), (1, false), (2, true), (4, false)], []⟩
def K104_1 : C := .seq (.pl <| .st (.ext 4 7) <|
    .st (.act none (.px (some 4) (.mv (.v 1)))) <|
    .st (.act none (.als 5 none 2)) <|
    .st (.act none (.pget (some 6) (some 5) 2 1 none)) <|
    .st (.act none (.px (some 7) (.bin .and (.v 4) (.v 6)))) <|
    .st (.act none (.als 8 none 2)) <|
    .st (.act none (.pget (some 9) (some 8) 2 2 none)) <|
    .st (.act none (.px (some 10) (.bin .eql (.v 7) (.v 9)))) <|
    .st (.act none (.px (some 3) (.mv (.v 10)))) .done) (.ret)
@[simp] def W104_1 := @C.wpe _ _ K104_1.eq_1
def B_spec_l7On : C := .seq (.pl <| .st (.ext 4 0) <|
    .st (.act none (.pnew 2 (.v 0) [])) <|
    .st (.act none (.px (some 3) (.mv (.c (.bool false))))) .done) K104_1
@[simp] def WB_spec_l7On := @C.wpe _ _ B_spec_l7On.eq_1
def R_spec_l7On : FIR := ⟨B_spec_l7On, 4, [(3, none)]⟩
theorem IR_spec_l7On : cfun Try.prog H_spec_l7On Try.f104 = some R_spec_l7On := by kernel_rfl
theorem EN_spec_l7On {args : List Value} {h : Heap} {k : Value → Heap → Prop} (hargs : args.length = 2) (hw : B_spec_l7On.wp Try.prog (retQ [(3, none)] k) (env0 args 4) h) : CallE Try.prog fn_spec_l7On args h k := enter Try.func104 rfl IR_spec_l7On hargs hw


end Go.Proofs.Ytknkjplnngeebaa
