/-
  Texts of this proof, one behind the other.
-/
import Derived.LaidMore
import Derived.MakeChecks
import Derived.ChangeVars
import Derived.Handed
import Derived.HandedShaped
import Derived.Lib.IndexLaws
import Derived.WalkKit
import Derived.BigCall
import Derived.Shelf.Strings.Builder1
import Derived.Shelf.Strings.Builder2
import Derived.Shelf.Strings.OnBuilder
import Derived.Shelf.Small.Strs
import Derived.Shelf.Utf8.RuneCount
import Derived.Shelf.Strconv.Itoa0
import Derived.Shelf.Strconv.Itoa1
import Derived.Shelf.LaysM
import Derived.Shelf.Strconv.Itoa2
import Derived.Shelf.Strconv.Itoa3
import Derived.Shelf.Strings.Search1
import Derived.Shelf.Strings.Search2
import Derived.Shelf.Strings.Search3
import Derived.Shelf.Strings.Cut
import Derived.Shelf.Strings.Count
import Derived.Shelf.Strings.Shaped
import Derived.Shelf.Strings.Prefix
import Derived.Shelf.Strings.Split
import Derived.Shelf.Strings.SplitShaped
import Derived.Shelf.Unicode.Decode
import Derived.Shelf.Strings.RuneCount
import Derived.Shelf.Strings.Explode
import Derived.Shelf.Unicode.DecodeSlow
import Derived.Shelf.Unicode.DecodeAny
import Derived.Shelf.Slices.Clone
import Derived.Shelf.SlicesE.Clone
import Derived.Test.YtjbjnicobdpdhaaGreatDoorRows
import Derived.Test.YtjbjnicobdpdhaaGreatDoorYF3
set_option linter.all false
set_option linter.unusedVariables false
set_option linter.unusedSimpArgs false
set_option linter.defProp false
set_option maxRecDepth 1000000
namespace Go.Proofs.YtjbjnicobdpdhaaGreatDoor
open Go
def H_laws_FnExactParseSystem:Hint:=⟨[(0,false),(2,false),(3,true),(4,false),(5,true),(6,false),(7,false),(8,false),(9,true),(10,false)],[]⟩
abbrev K3_1:C:=.seq (.pl <| .e 10 0 <|
 .x 1 (.mv (.c (.bool true))) .done) (.ret)
abbrev K3_2:C:=.seq (.pl <| .e 10 0 <|
 .x 1 (.mv (.c (.bool false))) .done) (.ret)
abbrev K3_3:C:=.cond 10 (.v 12) K3_2 (.skip)
abbrev K3_4:C:=.seq (.seq (.pl <| .e 10 3 <|
 .m 10 7 <|
 .m 11 6 <|
 .x 12 (.bin .neq (.v 10) (.v 11)) .done) K3_3) K3_1
abbrev K3_5:C:=.seq (.pl <| .e 10 0 <|
 .x 1 (.mv (.c (.bool false))) .done) (.ret)
abbrev K3_6:C:=.cond 10 (.v 11) K3_5 (.skip)
abbrev K3_7:C:=.seq (.seq (.pl <| .e 10 2 <|
 .m 10 7 <|
 .x 11 (.bin .lss (.v 10) (.c (.int .i64 0))) .done) K3_6) K3_4
abbrev K3_8:Pl:=.m 7 12 .done
abbrev K3_9:C:=.seq (.pl <| .e 10 3 <|
 .o (.pget (some 10) none 4 0 (some 2)) <|
 .m 11 7 <|
 .c 12 (.call fn_laws_heldSystem [.v 10,.v 11]) K3_8) K3_7
abbrev K3_10:C:=.seq (.pl <| .e 10 0 <|
 .x 7 (.mv (.c (.int .i64 1))) .done) K3_9
abbrev K3_11:C:=.seq (.pl <| .e 10 0 <|
 .x 1 (.mv (.c (.bool false))) .done) (.ret)
abbrev K3_12:C:=.cond 10 (.v 18) K3_11 (.skip)
abbrev K3_13:Pl:=.x 13 (.un .not (.v 12)) <|
 .m 14 13 <|
 .n 14 (.px (some 15) (.mv (.v 9))) <|
 .n 14 (.px (some 16) (.mv (.v 3))) <|
 .n 14 (.px (some 17) (.eqb true (.v 15) (.v 16))) <|
 .x 18 (.pick (.v 14) (.c (.bool true)) (.v 17)) .done
abbrev K3_14:C:=.seq (.seq (.pl <| .e 10 9 <|
 .o (.pget (some 10) none 8 0 (some 2)) <|
 .o (.pget (some 11) none 2 0 (some 2)) <|
 .c 12 (.call fn_laws_eqSystem [.v 10,.v 11]) K3_13) K3_12) K3_10
abbrev K3_15:Pl:=.m 12 11 <|
 .x 13 (.extract 0 (.v 12)) <|
 .x 14 (.extract 1 (.v 12)) <|
 .o (.pnew 8 (.c (.agg #[.slice none 0 0,.slice none 0 0])) []) <|
 .o (.pset none 8 0 2 (.v 13)) <|
 .m 9 14 .done
abbrev K3_16:C:=.seq (.pl <| .e 10 5 <|
 .m 10 0 <|
 .c 11 (.call fn_impl_ParseSystem [.v 10]) K3_15) K3_14
abbrev K3_17:C:=.seq (.pl <| .e 10 0 <|
 .x 1 (.mv (.c (.bool false))) .done) (.ret)
abbrev K3_18:C:=.cond 10 (.v 12) K3_17 (.skip)
abbrev K3_19:C:=.seq (.seq (.pl <| .e 10 3 <|
 .m 10 7 <|
 .m 11 6 <|
 .x 12 (.bin .neq (.v 10) (.v 11)) .done) K3_18) K3_16
abbrev K3_20:C:=.seq (.pl <| .e 10 0 <|
 .x 1 (.mv (.c (.bool false))) .done) (.ret)
abbrev K3_21:C:=.cond 10 (.v 11) K3_20 (.skip)
abbrev K3_22:C:=.seq (.seq (.pl <| .e 10 2 <|
 .m 10 7 <|
 .x 11 (.bin .lss (.v 10) (.c (.int .i64 0))) .done) K3_21) K3_19
abbrev K3_23:Pl:=.m 7 12 .done
abbrev K3_24:C:=.seq (.pl <| .e 10 3 <|
 .o (.pget (some 10) none 4 0 (some 2)) <|
 .m 11 7 <|
 .c 12 (.call fn_laws_heldSystem [.v 10,.v 11]) K3_23) K3_22
abbrev K3_25:C:=.seq (.pl <| .e 10 0 <|
 .x 7 (.mv (.c (.int .i64 1))) .done) K3_24
abbrev K3_26:Pl:=.m 6 12 .done
abbrev K3_27:C:=.seq (.pl <| .e 10 3 <|
 .o (.pget (some 10) none 4 0 (some 2)) <|
 .m 11 6 <|
 .c 12 (.call fn_laws_markSystem [.v 10,.v 11]) K3_26) K3_25
abbrev K3_28:C:=.seq (.pl <| .e 10 0 <|
 .x 6 (.mv (.c (.int .i64 1))) .done) K3_27
abbrev K3_29:C:=.seq (.pl <| .e 10 0 <|
 .x 1 (.mv (.c (.bool false))) .done) (.ret)
abbrev K3_30:C:=.cond 10 (.v 18) K3_29 (.skip)
abbrev K3_31:Pl:=.x 13 (.un .not (.v 12)) <|
 .m 14 13 <|
 .n 14 (.px (some 15) (.mv (.v 5))) <|
 .n 14 (.px (some 16) (.mv (.v 3))) <|
 .n 14 (.px (some 17) (.eqb true (.v 15) (.v 16))) <|
 .x 18 (.pick (.v 14) (.c (.bool true)) (.v 17)) .done
abbrev K3_32:C:=.seq (.seq (.pl <| .e 10 9 <|
 .o (.pget (some 10) none 4 0 (some 2)) <|
 .o (.pget (some 11) none 2 0 (some 2)) <|
 .c 12 (.call fn_laws_eqSystem [.v 10,.v 11]) K3_31) K3_30) K3_28
abbrev K3_33:Pl:=.m 12 11 <|
 .x 13 (.extract 0 (.v 12)) <|
 .x 14 (.extract 1 (.v 12)) <|
 .o (.pnew 4 (.c (.agg #[.slice none 0 0,.slice none 0 0])) []) <|
 .o (.pset none 4 0 2 (.v 13)) <|
 .m 5 14 .done
abbrev K3_34:C:=.seq (.pl <| .e 10 5 <|
 .m 10 0 <|
 .c 11 (.call fn_impl_ParseSystem [.v 10]) K3_33) K3_32
abbrev K3_35:Pl:=.m 12 11 <|
 .x 13 (.extract 0 (.v 12)) <|
 .x 14 (.extract 1 (.v 12)) <|
 .o (.pnew 2 (.c (.agg #[.slice none 0 0,.slice none 0 0])) []) <|
 .o (.pset none 2 0 2 (.v 13)) <|
 .m 3 14 .done
abbrev K3_36:C:=.seq (.pl <| .e 10 5 <|
 .m 10 0 <|
 .c 11 (.call fn_spec_ParseSystem [.v 10]) K3_35) K3_34
abbrev K3_37:C:=.seq (.pl <| .e 10 0 <|
 .x 1 (.mv (.c (.bool true))) .done) (.ret)
abbrev K3_38:C:=.cond 10 (.v 12) K3_37 (.skip)
abbrev K3_39:C:=.seq (.seq (.pl <| .e 10 3 <|
 .m 10 0 <|
 .x 11 (.lenS (.v 10)) <|
 .x 12 (.bin .gtr (.v 11) (.c (.int .i64 1048576))) .done) K3_38) K3_36
abbrev B_laws_FnExactParseSystem:C:=.seq (.pl <| .e 10 0 <|
 .x 1 (.mv (.c (.bool false))) .done) K3_39
def R_laws_FnExactParseSystem:FIR:=⟨B_laws_FnExactParseSystem,10,[(1,none)]⟩
theorem IR_laws_FnExactParseSystem:cfun Tryz.prog H_laws_FnExactParseSystem Tryz.f3=some R_laws_FnExactParseSystem:=by kernel_rfl
theorem EN_laws_FnExactParseSystem:ENT Tryz.prog B_laws_FnExactParseSystem [(1,none)] 1 10 fn_laws_FnExactParseSystem:=fun hargs hw=>enter Tryz.func3 rfl IR_laws_FnExactParseSystem hargs hw
def H_laws_eqEdge:Hint:=⟨[(0,false),(1,false),(2,true),(3,true),(4,false)],[]⟩
abbrev K122_1:C:=.seq (.pl <| .e 5 0 <|
 .x 4 (.mv (.c (.bool true))) .done) (.ret)
abbrev K122_2:C:=.seq (.pl <| .e 5 0 <|
 .x 4 (.mv (.c (.bool false))) .done) (.ret)
abbrev K122_3:C:=.cond 5 (.v 9) K122_2 (.skip)
abbrev K122_4:C:=.seq (.seq (.pl <| .e 5 5 <|
 .a 5 2 <|
 .g 6 5 2 9 <|
 .a 7 3 <|
 .g 8 7 3 9 <|
 .x 9 (.bin .neq (.v 6) (.v 8)) .done) K122_3) K122_1
abbrev K122_5:C:=.seq (.pl <| .e 5 0 <|
 .x 4 (.mv (.c (.bool false))) .done) (.ret)
abbrev K122_6:C:=.cond 5 (.v 10) K122_5 (.skip)
abbrev K122_7:Pl:=.x 10 (.un .not (.v 9)) .done
abbrev K122_8:C:=.seq (.seq (.pl <| .e 5 6 <|
 .a 5 2 <|
 .o (.pget (some 6) (some 5) 2 6 (some 3)) <|
 .a 7 3 <|
 .o (.pget (some 8) (some 7) 3 6 (some 3)) <|
 .c 9 (.call fn_laws_eqExpr [.v 6,.v 8]) K122_7) K122_6) K122_4
abbrev K122_9:C:=.seq (.pl <| .e 5 0 <|
 .x 4 (.mv (.c (.bool false))) .done) (.ret)
abbrev K122_10:C:=.cond 5 (.v 9) K122_9 (.skip)
abbrev K122_11:C:=.seq (.seq (.pl <| .e 5 5 <|
 .a 5 2 <|
 .g 6 5 2 5 <|
 .a 7 3 <|
 .g 8 7 3 5 <|
 .x 9 (.bin .neq (.v 6) (.v 8)) .done) K122_10) K122_8
abbrev K122_12:C:=.seq (.pl <| .e 5 0 <|
 .x 4 (.mv (.c (.bool false))) .done) (.ret)
abbrev K122_13:C:=.cond 5 (.v 10) K122_12 (.skip)
abbrev K122_14:Pl:=.x 10 (.un .not (.v 9)) .done
abbrev K122_15:C:=.seq (.seq (.pl <| .e 5 6 <|
 .a 5 2 <|
 .o (.pget (some 6) (some 5) 2 2 (some 3)) <|
 .a 7 3 <|
 .o (.pget (some 8) (some 7) 3 2 (some 3)) <|
 .c 9 (.call fn_laws_eqExpr [.v 6,.v 8]) K122_14) K122_13) K122_11
abbrev K122_16:C:=.seq (.pl <| .e 5 0 <|
 .x 4 (.mv (.c (.bool false))) .done) (.ret)
abbrev K122_17:C:=.cond 5 (.v 9) K122_16 (.skip)
abbrev K122_18:C:=.seq (.seq (.pl <| .e 5 5 <|
 .a 5 2 <|
 .g 6 5 2 1 <|
 .a 7 3 <|
 .g 8 7 3 1 <|
 .x 9 (.bin .neq (.v 6) (.v 8)) .done) K122_17) K122_15
abbrev K122_19:C:=.seq (.pl <| .e 5 0 <|
 .x 4 (.mv (.c (.bool false))) .done) (.ret)
abbrev K122_20:C:=.cond 5 (.v 9) K122_19 (.skip)
abbrev K122_21:C:=.seq (.seq (.pl <| .e 5 5 <|
 .a 5 2 <|
 .g 6 5 2 0 <|
 .a 7 3 <|
 .g 8 7 3 0 <|
 .x 9 (.bin .neq (.v 6) (.v 8)) .done) K122_20) K122_18
abbrev B_laws_eqEdge:C:=.seq (.pl <| .e 5 0 <|
 .o (.pnew 2 (.v 0) []) <|
 .o (.pnew 3 (.v 1) []) <|
 .x 4 (.mv (.c (.bool false))) .done) K122_21
def R_laws_eqEdge:FIR:=⟨B_laws_eqEdge,5,[(4,none)]⟩
theorem IR_laws_eqEdge:cfun Tryz.prog H_laws_eqEdge Tryz.f122=some R_laws_eqEdge:=by kernel_rfl
theorem EN_laws_eqEdge:ENT Tryz.prog B_laws_eqEdge [(4,none)] 2 5 fn_laws_eqEdge:=fun hargs hw=>enter Tryz.func122 rfl IR_laws_eqEdge hargs hw
def H_laws_eqEdgeS:Hint:=⟨[(0,false),(1,false),(4,false),(5,false)],[[2]]⟩
abbrev K95_1:C:=.seq (.pl <| .e 4 0 <|
 .x 2 (.mv (.c (.bool true))) .done) (.ret)
abbrev K95_2:C:=.pl <| .e 4 2 <|
 .m 4 3 <|
 .x 5 (.bin .add (.v 4) (.c (.int .i64 1))) <|
 .m 3 5 .done
abbrev K95_3:C:=.seq (.pl <| .e 4 0 <|
 .x 2 (.mv (.c (.bool false))) .done) (.ret)
abbrev K95_4:C:=.cond 4 (.v 13) K95_3 (.skip)
abbrev K95_5:Pl:=.x 13 (.un .not (.v 12)) .done
abbrev K95_6:C:=.seq (.block 1 (.seq (.pl <| .e 4 10 <|
 .m 4 0 <|
 .m 5 3 <|
 .x 6 (.ia 10 (.v 4) (.v 5)) <|
 .o (.ld (some 7) (.v 6) (some 10)) <|
 .m 8 1 <|
 .m 9 3 <|
 .x 10 (.ia 10 (.v 8) (.v 9)) <|
 .o (.ld (some 11) (.v 10) (some 10)) <|
 .c 12 (.call fn_laws_eqEdge [.v 7,.v 11]) K95_5) K95_4)) K95_2
abbrev K95_7:C:=.cond 4 (.v 7) (.skip) (.exit 0)
abbrev K95_8:C:=.seq (.seq (.pl <| .e 4 4 <|
 .m 4 3 <|
 .m 5 0 <|
 .x 6 (.lenV (.v 5)) <|
 .x 7 (.bin .lss (.v 4) (.v 6)) .done) K95_7) K95_6
abbrev K95_9:C:=.block 0 (.loop 4 [2] K95_8)
abbrev K95_10:C:=.seq (.seq (.pl <| .e 4 0 <|
 .x 3 (.mv (.c (.int .i64 0))) .done) K95_9) K95_1
abbrev K95_11:C:=.seq (.pl <| .e 4 0 <|
 .x 2 (.mv (.c (.bool false))) .done) (.ret)
abbrev K95_12:C:=.cond 4 (.v 8) K95_11 (.skip)
abbrev K95_13:C:=.seq (.seq (.pl <| .e 4 5 <|
 .m 4 0 <|
 .x 5 (.lenV (.v 4)) <|
 .m 6 1 <|
 .x 7 (.lenV (.v 6)) <|
 .x 8 (.bin .neq (.v 5) (.v 7)) .done) K95_12) K95_10
abbrev B_laws_eqEdgeS:C:=.seq (.pl <| .e 4 0 <|
 .x 2 (.mv (.c (.bool false))) .done) K95_13
def R_laws_eqEdgeS:FIR:=⟨B_laws_eqEdgeS,4,[(2,none)]⟩
theorem IR_laws_eqEdgeS:cfun Tryz.prog H_laws_eqEdgeS Tryz.f95=some R_laws_eqEdgeS:=by kernel_rfl
theorem EN_laws_eqEdgeS:ENT Tryz.prog B_laws_eqEdgeS [(2,none)] 2 4 fn_laws_eqEdgeS:=fun hargs hw=>enter Tryz.func95 rfl IR_laws_eqEdgeS hargs hw
def H_laws_eqExpr:Hint:=⟨[(0,false),(1,false),(2,true),(3,true),(4,false)],[]⟩
abbrev K138_1:C:=.seq (.pl <| .e 5 0 <|
 .x 4 (.mv (.c (.bool true))) .done) (.ret)
abbrev K138_2:C:=.seq (.pl <| .e 5 0 <|
 .x 4 (.mv (.c (.bool false))) .done) (.ret)
abbrev K138_3:C:=.cond 5 (.v 10) K138_2 (.skip)
abbrev K138_4:Pl:=.x 10 (.un .not (.v 9)) .done
abbrev K138_5:C:=.seq (.seq (.pl <| .e 5 6 <|
 .a 5 2 <|
 .g 6 5 2 2 <|
 .a 7 3 <|
 .g 8 7 3 2 <|
 .c 9 (.call fn_laws_eqExprS [.v 6,.v 8]) K138_4) K138_3) K138_1
abbrev K138_6:C:=.seq (.pl <| .e 5 0 <|
 .x 4 (.mv (.c (.bool false))) .done) (.ret)
abbrev K138_7:C:=.cond 5 (.v 9) K138_6 (.skip)
abbrev K138_8:C:=.seq (.seq (.pl <| .e 5 5 <|
 .a 5 2 <|
 .g 6 5 2 1 <|
 .a 7 3 <|
 .g 8 7 3 1 <|
 .x 9 (.bin .neq (.v 6) (.v 8)) .done) K138_7) K138_5
abbrev K138_9:C:=.seq (.pl <| .e 5 0 <|
 .x 4 (.mv (.c (.bool false))) .done) (.ret)
abbrev K138_10:C:=.cond 5 (.v 9) K138_9 (.skip)
abbrev K138_11:C:=.seq (.seq (.pl <| .e 5 5 <|
 .a 5 2 <|
 .g 6 5 2 0 <|
 .a 7 3 <|
 .g 8 7 3 0 <|
 .x 9 (.bin .neq (.v 6) (.v 8)) .done) K138_10) K138_8
abbrev B_laws_eqExpr:C:=.seq (.pl <| .e 5 0 <|
 .o (.pnew 2 (.v 0) []) <|
 .o (.pnew 3 (.v 1) []) <|
 .x 4 (.mv (.c (.bool false))) .done) K138_11
def R_laws_eqExpr:FIR:=⟨B_laws_eqExpr,5,[(4,none)]⟩
theorem IR_laws_eqExpr:cfun Tryz.prog H_laws_eqExpr Tryz.f138=some R_laws_eqExpr:=by kernel_rfl
theorem EN_laws_eqExpr:ENT Tryz.prog B_laws_eqExpr [(4,none)] 2 5 fn_laws_eqExpr:=fun hargs hw=>enter Tryz.func138 rfl IR_laws_eqExpr hargs hw
def H_laws_eqExprS:Hint:=⟨[(0,false),(1,false),(4,false),(5,false)],[[2]]⟩
abbrev K149_1:C:=.seq (.pl <| .e 4 0 <|
 .x 2 (.mv (.c (.bool true))) .done) (.ret)
abbrev K149_2:C:=.pl <| .e 4 2 <|
 .m 4 3 <|
 .x 5 (.bin .add (.v 4) (.c (.int .i64 1))) <|
 .m 3 5 .done
abbrev K149_3:C:=.seq (.pl <| .e 4 0 <|
 .x 2 (.mv (.c (.bool false))) .done) (.ret)
abbrev K149_4:C:=.cond 4 (.v 13) K149_3 (.skip)
abbrev K149_5:Pl:=.x 13 (.un .not (.v 12)) .done
abbrev K149_6:C:=.seq (.block 1 (.seq (.pl <| .e 4 10 <|
 .m 4 0 <|
 .m 5 3 <|
 .x 6 (.ia 3 (.v 4) (.v 5)) <|
 .o (.ld (some 7) (.v 6) (some 3)) <|
 .m 8 1 <|
 .m 9 3 <|
 .x 10 (.ia 3 (.v 8) (.v 9)) <|
 .o (.ld (some 11) (.v 10) (some 3)) <|
 .c 12 (.call fn_laws_eqExpr [.v 7,.v 11]) K149_5) K149_4)) K149_2
abbrev K149_7:C:=.cond 4 (.v 7) (.skip) (.exit 0)
abbrev K149_8:C:=.seq (.seq (.pl <| .e 4 4 <|
 .m 4 3 <|
 .m 5 0 <|
 .x 6 (.lenV (.v 5)) <|
 .x 7 (.bin .lss (.v 4) (.v 6)) .done) K149_7) K149_6
abbrev K149_9:C:=.block 0 (.loop 4 [2] K149_8)
abbrev K149_10:C:=.seq (.seq (.pl <| .e 4 0 <|
 .x 3 (.mv (.c (.int .i64 0))) .done) K149_9) K149_1
abbrev K149_11:C:=.seq (.pl <| .e 4 0 <|
 .x 2 (.mv (.c (.bool false))) .done) (.ret)
abbrev K149_12:C:=.cond 4 (.v 8) K149_11 (.skip)
abbrev K149_13:C:=.seq (.seq (.pl <| .e 4 5 <|
 .m 4 0 <|
 .x 5 (.lenV (.v 4)) <|
 .m 6 1 <|
 .x 7 (.lenV (.v 6)) <|
 .x 8 (.bin .neq (.v 5) (.v 7)) .done) K149_12) K149_10
abbrev B_laws_eqExprS:C:=.seq (.pl <| .e 4 0 <|
 .x 2 (.mv (.c (.bool false))) .done) K149_13
def R_laws_eqExprS:FIR:=⟨B_laws_eqExprS,4,[(2,none)]⟩
theorem IR_laws_eqExprS:cfun Tryz.prog H_laws_eqExprS Tryz.f149=some R_laws_eqExprS:=by kernel_rfl
theorem EN_laws_eqExprS:ENT Tryz.prog B_laws_eqExprS [(2,none)] 2 4 fn_laws_eqExprS:=fun hargs hw=>enter Tryz.func149 rfl IR_laws_eqExprS hargs hw
def H_laws_eqIntS:Hint:=⟨[(0,false),(1,false),(4,false),(5,false)],[[2]]⟩
abbrev K25_1:C:=.seq (.pl <| .e 4 0 <|
 .x 2 (.mv (.c (.bool true))) .done) (.ret)
abbrev K25_2:C:=.pl <| .e 4 2 <|
 .m 4 3 <|
 .x 5 (.bin .add (.v 4) (.c (.int .i64 1))) <|
 .m 3 5 .done
abbrev K25_3:C:=.seq (.pl <| .e 4 0 <|
 .x 2 (.mv (.c (.bool false))) .done) (.ret)
abbrev K25_4:C:=.cond 4 (.v 12) K25_3 (.skip)
abbrev K25_5:C:=.seq (.block 1 (.seq (.pl <| .e 4 9 <|
 .m 4 0 <|
 .m 5 3 <|
 .x 6 (.ia 1 (.v 4) (.v 5)) <|
 .l 7 6 <|
 .m 8 1 <|
 .m 9 3 <|
 .x 10 (.ia 1 (.v 8) (.v 9)) <|
 .l 11 10 <|
 .x 12 (.bin .neq (.v 7) (.v 11)) .done) K25_4)) K25_2
abbrev K25_6:C:=.cond 4 (.v 7) (.skip) (.exit 0)
abbrev K25_7:C:=.seq (.seq (.pl <| .e 4 4 <|
 .m 4 3 <|
 .m 5 0 <|
 .x 6 (.lenV (.v 5)) <|
 .x 7 (.bin .lss (.v 4) (.v 6)) .done) K25_6) K25_5
abbrev K25_8:C:=.block 0 (.loop 4 [2] K25_7)
abbrev K25_9:C:=.seq (.seq (.pl <| .e 4 0 <|
 .x 3 (.mv (.c (.int .i64 0))) .done) K25_8) K25_1
abbrev K25_10:C:=.seq (.pl <| .e 4 0 <|
 .x 2 (.mv (.c (.bool false))) .done) (.ret)
abbrev K25_11:C:=.cond 4 (.v 8) K25_10 (.skip)
abbrev K25_12:C:=.seq (.seq (.pl <| .e 4 5 <|
 .m 4 0 <|
 .x 5 (.lenV (.v 4)) <|
 .m 6 1 <|
 .x 7 (.lenV (.v 6)) <|
 .x 8 (.bin .neq (.v 5) (.v 7)) .done) K25_11) K25_9
abbrev B_laws_eqIntS:C:=.seq (.pl <| .e 4 0 <|
 .x 2 (.mv (.c (.bool false))) .done) K25_12
def R_laws_eqIntS:FIR:=⟨B_laws_eqIntS,4,[(2,none)]⟩
theorem IR_laws_eqIntS:cfun Tryz.prog H_laws_eqIntS Tryz.f25=some R_laws_eqIntS:=by kernel_rfl
theorem EN_laws_eqIntS:ENT Tryz.prog B_laws_eqIntS [(2,none)] 2 4 fn_laws_eqIntS:=fun hargs hw=>enter Tryz.func25 rfl IR_laws_eqIntS hargs hw
def H_laws_eqProcess:Hint:=⟨[(0,false),(1,false),(2,true),(3,true),(4,false)],[]⟩
abbrev K63_1:C:=.seq (.pl <| .e 5 0 <|
 .x 4 (.mv (.c (.bool true))) .done) (.ret)
abbrev K63_2:C:=.seq (.pl <| .e 5 0 <|
 .x 4 (.mv (.c (.bool false))) .done) (.ret)
abbrev K63_3:C:=.cond 5 (.v 10) K63_2 (.skip)
abbrev K63_4:Pl:=.x 10 (.un .not (.v 9)) .done
abbrev K63_5:C:=.seq (.seq (.pl <| .e 5 6 <|
 .a 5 2 <|
 .g 6 5 2 1 <|
 .a 7 3 <|
 .g 8 7 3 1 <|
 .c 9 (.call fn_laws_eqEdgeS [.v 6,.v 8]) K63_4) K63_3) K63_1
abbrev K63_6:C:=.seq (.pl <| .e 5 0 <|
 .x 4 (.mv (.c (.bool false))) .done) (.ret)
abbrev K63_7:C:=.cond 5 (.v 9) K63_6 (.skip)
abbrev K63_8:C:=.seq (.seq (.pl <| .e 5 5 <|
 .a 5 2 <|
 .g 6 5 2 0 <|
 .a 7 3 <|
 .g 8 7 3 0 <|
 .x 9 (.bin .neq (.v 6) (.v 8)) .done) K63_7) K63_5
abbrev B_laws_eqProcess:C:=.seq (.pl <| .e 5 0 <|
 .o (.pnew 2 (.v 0) []) <|
 .o (.pnew 3 (.v 1) []) <|
 .x 4 (.mv (.c (.bool false))) .done) K63_8
def R_laws_eqProcess:FIR:=⟨B_laws_eqProcess,5,[(4,none)]⟩
theorem IR_laws_eqProcess:cfun Tryz.prog H_laws_eqProcess Tryz.f63=some R_laws_eqProcess:=by kernel_rfl
theorem EN_laws_eqProcess:ENT Tryz.prog B_laws_eqProcess [(4,none)] 2 5 fn_laws_eqProcess:=fun hargs hw=>enter Tryz.func63 rfl IR_laws_eqProcess hargs hw
def H_laws_eqProcessS:Hint:=⟨[(0,false),(1,false),(4,false),(5,false)],[[2]]⟩
abbrev K26_1:C:=.seq (.pl <| .e 4 0 <|
 .x 2 (.mv (.c (.bool true))) .done) (.ret)
abbrev K26_2:C:=.pl <| .e 4 2 <|
 .m 4 3 <|
 .x 5 (.bin .add (.v 4) (.c (.int .i64 1))) <|
 .m 3 5 .done
abbrev K26_3:C:=.seq (.pl <| .e 4 0 <|
 .x 2 (.mv (.c (.bool false))) .done) (.ret)
abbrev K26_4:C:=.cond 4 (.v 13) K26_3 (.skip)
abbrev K26_5:Pl:=.x 13 (.un .not (.v 12)) .done
abbrev K26_6:C:=.seq (.block 1 (.seq (.pl <| .e 4 10 <|
 .m 4 0 <|
 .m 5 3 <|
 .x 6 (.ia 2 (.v 4) (.v 5)) <|
 .o (.ld (some 7) (.v 6) (some 2)) <|
 .m 8 1 <|
 .m 9 3 <|
 .x 10 (.ia 2 (.v 8) (.v 9)) <|
 .o (.ld (some 11) (.v 10) (some 2)) <|
 .c 12 (.call fn_laws_eqProcess [.v 7,.v 11]) K26_5) K26_4)) K26_2
abbrev K26_7:C:=.cond 4 (.v 7) (.skip) (.exit 0)
abbrev K26_8:C:=.seq (.seq (.pl <| .e 4 4 <|
 .m 4 3 <|
 .m 5 0 <|
 .x 6 (.lenV (.v 5)) <|
 .x 7 (.bin .lss (.v 4) (.v 6)) .done) K26_7) K26_6
abbrev K26_9:C:=.block 0 (.loop 4 [2] K26_8)
abbrev K26_10:C:=.seq (.seq (.pl <| .e 4 0 <|
 .x 3 (.mv (.c (.int .i64 0))) .done) K26_9) K26_1
abbrev K26_11:C:=.seq (.pl <| .e 4 0 <|
 .x 2 (.mv (.c (.bool false))) .done) (.ret)
abbrev K26_12:C:=.cond 4 (.v 8) K26_11 (.skip)
abbrev K26_13:C:=.seq (.seq (.pl <| .e 4 5 <|
 .m 4 0 <|
 .x 5 (.lenV (.v 4)) <|
 .m 6 1 <|
 .x 7 (.lenV (.v 6)) <|
 .x 8 (.bin .neq (.v 5) (.v 7)) .done) K26_12) K26_10
abbrev B_laws_eqProcessS:C:=.seq (.pl <| .e 4 0 <|
 .x 2 (.mv (.c (.bool false))) .done) K26_13
def R_laws_eqProcessS:FIR:=⟨B_laws_eqProcessS,4,[(2,none)]⟩
theorem IR_laws_eqProcessS:cfun Tryz.prog H_laws_eqProcessS Tryz.f26=some R_laws_eqProcessS:=by kernel_rfl
theorem EN_laws_eqProcessS:ENT Tryz.prog B_laws_eqProcessS [(2,none)] 2 4 fn_laws_eqProcessS:=fun hargs hw=>enter Tryz.func26 rfl IR_laws_eqProcessS hargs hw
def H_laws_eqSystem:Hint:=⟨[(0,false),(1,false),(2,true),(3,true),(4,false)],[]⟩
abbrev K7_1:C:=.seq (.pl <| .e 5 0 <|
 .x 4 (.mv (.c (.bool true))) .done) (.ret)
abbrev K7_2:C:=.seq (.pl <| .e 5 0 <|
 .x 4 (.mv (.c (.bool false))) .done) (.ret)
abbrev K7_3:C:=.cond 5 (.v 10) K7_2 (.skip)
abbrev K7_4:Pl:=.x 10 (.un .not (.v 9)) .done
abbrev K7_5:C:=.seq (.seq (.pl <| .e 5 6 <|
 .a 5 2 <|
 .g 6 5 2 1 <|
 .a 7 3 <|
 .g 8 7 3 1 <|
 .c 9 (.call fn_laws_eqProcessS [.v 6,.v 8]) K7_4) K7_3) K7_1
abbrev K7_6:C:=.seq (.pl <| .e 5 0 <|
 .x 4 (.mv (.c (.bool false))) .done) (.ret)
abbrev K7_7:C:=.cond 5 (.v 10) K7_6 (.skip)
abbrev K7_8:Pl:=.x 10 (.un .not (.v 9)) .done
abbrev K7_9:C:=.seq (.seq (.pl <| .e 5 6 <|
 .a 5 2 <|
 .g 6 5 2 0 <|
 .a 7 3 <|
 .g 8 7 3 0 <|
 .c 9 (.call fn_laws_eqIntS [.v 6,.v 8]) K7_8) K7_7) K7_5
abbrev B_laws_eqSystem:C:=.seq (.pl <| .e 5 0 <|
 .o (.pnew 2 (.v 0) []) <|
 .o (.pnew 3 (.v 1) []) <|
 .x 4 (.mv (.c (.bool false))) .done) K7_9
def R_laws_eqSystem:FIR:=⟨B_laws_eqSystem,5,[(4,none)]⟩
theorem IR_laws_eqSystem:cfun Tryz.prog H_laws_eqSystem Tryz.f7=some R_laws_eqSystem:=by kernel_rfl
theorem EN_laws_eqSystem:ENT Tryz.prog B_laws_eqSystem [(4,none)] 2 5 fn_laws_eqSystem:=fun hargs hw=>enter Tryz.func7 rfl IR_laws_eqSystem hargs hw
def H_laws_heldEdgeS:Hint:=⟨[(0,false),(1,false),(4,false),(5,false)],[[2]]⟩
abbrev K65_1:C:=.seq (.pl <| .e 4 1 <|
 .m 4 1 <|
 .m 2 4 .done) (.ret)
abbrev K65_2:C:=.pl <| .e 4 2 <|
 .m 4 3 <|
 .x 5 (.bin .add (.v 4) (.c (.int .i64 1))) <|
 .m 3 5 .done
abbrev K65_3:C:=.pl <| .e 4 2 <|
 .m 4 1 <|
 .x 5 (.bin .add (.v 4) (.c (.int .i64 1))) <|
 .m 1 5 .done
abbrev K65_4:C:=.seq (.pl <| .e 4 0 <|
 .x 2 (.mv (.c (.int .i64 (-1)))) .done) (.ret)
abbrev K65_5:C:=.cond 4 (.v 10) K65_4 (.skip)
abbrev K65_6:C:=.seq (.seq (.pl <| .e 4 7 <|
 .m 4 0 <|
 .m 5 3 <|
 .x 6 (.ia 10 (.v 4) (.v 5)) <|
 .x 7 (.fa 9 (.v 6)) <|
 .l 8 7 <|
 .m 9 1 <|
 .x 10 (.bin .neq (.v 8) (.v 9)) .done) K65_5) K65_3
abbrev K65_7:C:=.seq (.pl <| .e 4 0 <|
 .x 2 (.mv (.c (.int .i64 (-1)))) .done) (.ret)
abbrev K65_8:C:=.cond 4 (.v 5) K65_7 (.skip)
abbrev K65_9:C:=.seq (.seq (.pl <| .e 4 2 <|
 .m 4 1 <|
 .x 5 (.bin .lss (.v 4) (.c (.int .i64 0))) .done) K65_8) K65_6
abbrev K65_10:Pl:=.m 1 11 .done
abbrev K65_11:C:=.seq (.pl <| .e 4 8 <|
 .m 4 0 <|
 .m 5 3 <|
 .x 6 (.ia 10 (.v 4) (.v 5)) <|
 .x 7 (.fa 6 (.v 6)) <|
 .x 8 (.fa 2 (.v 7)) <|
 .l 9 8 <|
 .m 10 1 <|
 .c 11 (.call fn_laws_heldExprS [.v 9,.v 10]) K65_10) K65_9
abbrev K65_12:C:=.seq (.pl <| .e 4 2 <|
 .m 4 1 <|
 .x 5 (.bin .add (.v 4) (.c (.int .i64 1))) <|
 .m 1 5 .done) K65_11
abbrev K65_13:C:=.seq (.pl <| .e 4 0 <|
 .x 2 (.mv (.c (.int .i64 (-1)))) .done) (.ret)
abbrev K65_14:C:=.cond 4 (.v 11) K65_13 (.skip)
abbrev K65_15:C:=.seq (.seq (.pl <| .e 4 8 <|
 .m 4 0 <|
 .m 5 3 <|
 .x 6 (.ia 10 (.v 4) (.v 5)) <|
 .x 7 (.fa 6 (.v 6)) <|
 .x 8 (.fa 1 (.v 7)) <|
 .l 9 8 <|
 .m 10 1 <|
 .x 11 (.bin .neq (.v 9) (.v 10)) .done) K65_14) K65_12
abbrev K65_16:C:=.seq (.pl <| .e 4 2 <|
 .m 4 1 <|
 .x 5 (.bin .add (.v 4) (.c (.int .i64 1))) <|
 .m 1 5 .done) K65_15
abbrev K65_17:C:=.seq (.pl <| .e 4 0 <|
 .x 2 (.mv (.c (.int .i64 (-1)))) .done) (.ret)
abbrev K65_18:C:=.cond 4 (.v 11) K65_17 (.skip)
abbrev K65_19:C:=.seq (.seq (.pl <| .e 4 8 <|
 .m 4 0 <|
 .m 5 3 <|
 .x 6 (.ia 10 (.v 4) (.v 5)) <|
 .x 7 (.fa 6 (.v 6)) <|
 .x 8 (.fa 0 (.v 7)) <|
 .l 9 8 <|
 .m 10 1 <|
 .x 11 (.bin .neq (.v 9) (.v 10)) .done) K65_18) K65_16
abbrev K65_20:C:=.seq (.pl <| .e 4 2 <|
 .m 4 1 <|
 .x 5 (.bin .add (.v 4) (.c (.int .i64 1))) <|
 .m 1 5 .done) K65_19
abbrev K65_21:C:=.seq (.pl <| .e 4 0 <|
 .x 2 (.mv (.c (.int .i64 (-1)))) .done) (.ret)
abbrev K65_22:C:=.cond 4 (.v 10) K65_21 (.skip)
abbrev K65_23:C:=.seq (.seq (.pl <| .e 4 7 <|
 .m 4 0 <|
 .m 5 3 <|
 .x 6 (.ia 10 (.v 4) (.v 5)) <|
 .x 7 (.fa 5 (.v 6)) <|
 .l 8 7 <|
 .m 9 1 <|
 .x 10 (.bin .neq (.v 8) (.v 9)) .done) K65_22) K65_20
abbrev K65_24:C:=.seq (.pl <| .e 4 0 <|
 .x 2 (.mv (.c (.int .i64 (-1)))) .done) (.ret)
abbrev K65_25:C:=.cond 4 (.v 5) K65_24 (.skip)
abbrev K65_26:C:=.seq (.seq (.pl <| .e 4 2 <|
 .m 4 1 <|
 .x 5 (.bin .lss (.v 4) (.c (.int .i64 0))) .done) K65_25) K65_23
abbrev K65_27:Pl:=.m 1 11 .done
abbrev K65_28:C:=.seq (.pl <| .e 4 8 <|
 .m 4 0 <|
 .m 5 3 <|
 .x 6 (.ia 10 (.v 4) (.v 5)) <|
 .x 7 (.fa 2 (.v 6)) <|
 .x 8 (.fa 2 (.v 7)) <|
 .l 9 8 <|
 .m 10 1 <|
 .c 11 (.call fn_laws_heldExprS [.v 9,.v 10]) K65_27) K65_26
abbrev K65_29:C:=.seq (.pl <| .e 4 2 <|
 .m 4 1 <|
 .x 5 (.bin .add (.v 4) (.c (.int .i64 1))) <|
 .m 1 5 .done) K65_28
abbrev K65_30:C:=.seq (.pl <| .e 4 0 <|
 .x 2 (.mv (.c (.int .i64 (-1)))) .done) (.ret)
abbrev K65_31:C:=.cond 4 (.v 11) K65_30 (.skip)
abbrev K65_32:C:=.seq (.seq (.pl <| .e 4 8 <|
 .m 4 0 <|
 .m 5 3 <|
 .x 6 (.ia 10 (.v 4) (.v 5)) <|
 .x 7 (.fa 2 (.v 6)) <|
 .x 8 (.fa 1 (.v 7)) <|
 .l 9 8 <|
 .m 10 1 <|
 .x 11 (.bin .neq (.v 9) (.v 10)) .done) K65_31) K65_29
abbrev K65_33:C:=.seq (.pl <| .e 4 2 <|
 .m 4 1 <|
 .x 5 (.bin .add (.v 4) (.c (.int .i64 1))) <|
 .m 1 5 .done) K65_32
abbrev K65_34:C:=.seq (.pl <| .e 4 0 <|
 .x 2 (.mv (.c (.int .i64 (-1)))) .done) (.ret)
abbrev K65_35:C:=.cond 4 (.v 11) K65_34 (.skip)
abbrev K65_36:C:=.seq (.seq (.pl <| .e 4 8 <|
 .m 4 0 <|
 .m 5 3 <|
 .x 6 (.ia 10 (.v 4) (.v 5)) <|
 .x 7 (.fa 2 (.v 6)) <|
 .x 8 (.fa 0 (.v 7)) <|
 .l 9 8 <|
 .m 10 1 <|
 .x 11 (.bin .neq (.v 9) (.v 10)) .done) K65_35) K65_33
abbrev K65_37:C:=.seq (.pl <| .e 4 2 <|
 .m 4 1 <|
 .x 5 (.bin .add (.v 4) (.c (.int .i64 1))) <|
 .m 1 5 .done) K65_36
abbrev K65_38:C:=.seq (.pl <| .e 4 0 <|
 .x 2 (.mv (.c (.int .i64 (-1)))) .done) (.ret)
abbrev K65_39:C:=.cond 4 (.v 10) K65_38 (.skip)
abbrev K65_40:C:=.seq (.seq (.pl <| .e 4 7 <|
 .m 4 0 <|
 .m 5 3 <|
 .x 6 (.ia 10 (.v 4) (.v 5)) <|
 .x 7 (.fa 1 (.v 6)) <|
 .l 8 7 <|
 .m 9 1 <|
 .x 10 (.bin .neq (.v 8) (.v 9)) .done) K65_39) K65_37
abbrev K65_41:C:=.seq (.pl <| .e 4 2 <|
 .m 4 1 <|
 .x 5 (.bin .add (.v 4) (.c (.int .i64 1))) <|
 .m 1 5 .done) K65_40
abbrev K65_42:C:=.seq (.pl <| .e 4 0 <|
 .x 2 (.mv (.c (.int .i64 (-1)))) .done) (.ret)
abbrev K65_43:C:=.cond 4 (.v 10) K65_42 (.skip)
abbrev K65_44:C:=.seq (.block 1 (.seq (.seq (.pl <| .e 4 7 <|
 .m 4 0 <|
 .m 5 3 <|
 .x 6 (.ia 10 (.v 4) (.v 5)) <|
 .x 7 (.fa 0 (.v 6)) <|
 .l 8 7 <|
 .m 9 1 <|
 .x 10 (.bin .neq (.v 8) (.v 9)) .done) K65_43) K65_41)) K65_2
abbrev K65_45:C:=.cond 4 (.v 7) (.skip) (.exit 0)
abbrev K65_46:C:=.seq (.seq (.pl <| .e 4 4 <|
 .m 4 3 <|
 .m 5 0 <|
 .x 6 (.lenV (.v 5)) <|
 .x 7 (.bin .lss (.v 4) (.v 6)) .done) K65_45) K65_44
abbrev K65_47:C:=.block 0 (.loop 4 [2] K65_46)
abbrev K65_48:C:=.seq (.seq (.pl <| .e 4 0 <|
 .x 3 (.mv (.c (.int .i64 0))) .done) K65_47) K65_1
abbrev B_laws_heldEdgeS:C:=.seq (.pl <| .e 4 0 <|
 .x 2 (.mv (.c (.int .i64 0))) .done) K65_48
def R_laws_heldEdgeS:FIR:=⟨B_laws_heldEdgeS,4,[(2,none)]⟩
theorem IR_laws_heldEdgeS:cfun Tryz.prog H_laws_heldEdgeS Tryz.f65=some R_laws_heldEdgeS:=by kernel_rfl
theorem EN_laws_heldEdgeS:ENT Tryz.prog B_laws_heldEdgeS [(2,none)] 2 4 fn_laws_heldEdgeS:=fun hargs hw=>enter Tryz.func65 rfl IR_laws_heldEdgeS hargs hw
def H_laws_heldExprS:Hint:=⟨[(0,false),(1,false),(4,false),(5,false)],[[2]]⟩
abbrev K97_1:C:=.seq (.pl <| .e 4 1 <|
 .m 4 1 <|
 .m 2 4 .done) (.ret)
abbrev K97_2:C:=.pl <| .e 4 2 <|
 .m 4 3 <|
 .x 5 (.bin .add (.v 4) (.c (.int .i64 1))) <|
 .m 3 5 .done
abbrev K97_3:C:=.seq (.pl <| .e 4 0 <|
 .x 2 (.mv (.c (.int .i64 (-1)))) .done) (.ret)
abbrev K97_4:C:=.cond 4 (.v 5) K97_3 (.skip)
abbrev K97_5:C:=.seq (.pl <| .e 4 2 <|
 .m 4 1 <|
 .x 5 (.bin .lss (.v 4) (.c (.int .i64 0))) .done) K97_4
abbrev K97_6:Pl:=.m 1 10 .done
abbrev K97_7:C:=.seq (.pl <| .e 4 7 <|
 .m 4 0 <|
 .m 5 3 <|
 .x 6 (.ia 3 (.v 4) (.v 5)) <|
 .x 7 (.fa 2 (.v 6)) <|
 .l 8 7 <|
 .m 9 1 <|
 .c 10 (.call fn_laws_heldExprS [.v 8,.v 9]) K97_6) K97_5
abbrev K97_8:C:=.seq (.pl <| .e 4 2 <|
 .m 4 1 <|
 .x 5 (.bin .add (.v 4) (.c (.int .i64 1))) <|
 .m 1 5 .done) K97_7
abbrev K97_9:C:=.seq (.pl <| .e 4 0 <|
 .x 2 (.mv (.c (.int .i64 (-1)))) .done) (.ret)
abbrev K97_10:C:=.cond 4 (.v 10) K97_9 (.skip)
abbrev K97_11:C:=.seq (.seq (.pl <| .e 4 7 <|
 .m 4 0 <|
 .m 5 3 <|
 .x 6 (.ia 3 (.v 4) (.v 5)) <|
 .x 7 (.fa 1 (.v 6)) <|
 .l 8 7 <|
 .m 9 1 <|
 .x 10 (.bin .neq (.v 8) (.v 9)) .done) K97_10) K97_8
abbrev K97_12:C:=.seq (.pl <| .e 4 2 <|
 .m 4 1 <|
 .x 5 (.bin .add (.v 4) (.c (.int .i64 1))) <|
 .m 1 5 .done) K97_11
abbrev K97_13:C:=.seq (.pl <| .e 4 0 <|
 .x 2 (.mv (.c (.int .i64 (-1)))) .done) (.ret)
abbrev K97_14:C:=.cond 4 (.v 10) K97_13 (.skip)
abbrev K97_15:C:=.seq (.block 1 (.seq (.seq (.pl <| .e 4 7 <|
 .m 4 0 <|
 .m 5 3 <|
 .x 6 (.ia 3 (.v 4) (.v 5)) <|
 .x 7 (.fa 0 (.v 6)) <|
 .l 8 7 <|
 .m 9 1 <|
 .x 10 (.bin .neq (.v 8) (.v 9)) .done) K97_14) K97_12)) K97_2
abbrev K97_16:C:=.cond 4 (.v 7) (.skip) (.exit 0)
abbrev K97_17:C:=.seq (.seq (.pl <| .e 4 4 <|
 .m 4 3 <|
 .m 5 0 <|
 .x 6 (.lenV (.v 5)) <|
 .x 7 (.bin .lss (.v 4) (.v 6)) .done) K97_16) K97_15
abbrev K97_18:C:=.block 0 (.loop 4 [2] K97_17)
abbrev K97_19:C:=.seq (.seq (.pl <| .e 4 0 <|
 .x 3 (.mv (.c (.int .i64 0))) .done) K97_18) K97_1
abbrev B_laws_heldExprS:C:=.seq (.pl <| .e 4 0 <|
 .x 2 (.mv (.c (.int .i64 0))) .done) K97_19
def R_laws_heldExprS:FIR:=⟨B_laws_heldExprS,4,[(2,none)]⟩
theorem IR_laws_heldExprS:cfun Tryz.prog H_laws_heldExprS Tryz.f97=some R_laws_heldExprS:=by kernel_rfl
theorem EN_laws_heldExprS:ENT Tryz.prog B_laws_heldExprS [(2,none)] 2 4 fn_laws_heldExprS:=fun hargs hw=>enter Tryz.func97 rfl IR_laws_heldExprS hargs hw
def H_laws_heldIntS:Hint:=⟨[(0,false),(1,false),(4,false),(5,false)],[[2]]⟩
abbrev K29_1:C:=.seq (.pl <| .e 4 1 <|
 .m 4 1 <|
 .m 2 4 .done) (.ret)
abbrev K29_2:C:=.pl <| .e 4 2 <|
 .m 4 3 <|
 .x 5 (.bin .add (.v 4) (.c (.int .i64 1))) <|
 .m 3 5 .done
abbrev K29_3:C:=.pl <| .e 4 2 <|
 .m 4 1 <|
 .x 5 (.bin .add (.v 4) (.c (.int .i64 1))) <|
 .m 1 5 .done
abbrev K29_4:C:=.seq (.pl <| .e 4 0 <|
 .x 2 (.mv (.c (.int .i64 (-1)))) .done) (.ret)
abbrev K29_5:C:=.cond 4 (.v 9) K29_4 (.skip)
abbrev K29_6:C:=.seq (.block 1 (.seq (.seq (.pl <| .e 4 6 <|
 .m 4 0 <|
 .m 5 3 <|
 .x 6 (.ia 1 (.v 4) (.v 5)) <|
 .l 7 6 <|
 .m 8 1 <|
 .x 9 (.bin .neq (.v 7) (.v 8)) .done) K29_5) K29_3)) K29_2
abbrev K29_7:C:=.cond 4 (.v 7) (.skip) (.exit 0)
abbrev K29_8:C:=.seq (.seq (.pl <| .e 4 4 <|
 .m 4 3 <|
 .m 5 0 <|
 .x 6 (.lenV (.v 5)) <|
 .x 7 (.bin .lss (.v 4) (.v 6)) .done) K29_7) K29_6
abbrev K29_9:C:=.block 0 (.loop 4 [2] K29_8)
abbrev K29_10:C:=.seq (.seq (.pl <| .e 4 0 <|
 .x 3 (.mv (.c (.int .i64 0))) .done) K29_9) K29_1
abbrev B_laws_heldIntS:C:=.seq (.pl <| .e 4 0 <|
 .x 2 (.mv (.c (.int .i64 0))) .done) K29_10
def R_laws_heldIntS:FIR:=⟨B_laws_heldIntS,4,[(2,none)]⟩
theorem IR_laws_heldIntS:cfun Tryz.prog H_laws_heldIntS Tryz.f29=some R_laws_heldIntS:=by kernel_rfl
theorem EN_laws_heldIntS:ENT Tryz.prog B_laws_heldIntS [(2,none)] 2 4 fn_laws_heldIntS:=fun hargs hw=>enter Tryz.func29 rfl IR_laws_heldIntS hargs hw
def H_laws_heldProcessS:Hint:=⟨[(0,false),(1,false),(4,false),(5,false)],[[2]]⟩
abbrev K30_1:C:=.seq (.pl <| .e 4 1 <|
 .m 4 1 <|
 .m 2 4 .done) (.ret)
abbrev K30_2:C:=.pl <| .e 4 2 <|
 .m 4 3 <|
 .x 5 (.bin .add (.v 4) (.c (.int .i64 1))) <|
 .m 3 5 .done
abbrev K30_3:C:=.seq (.pl <| .e 4 0 <|
 .x 2 (.mv (.c (.int .i64 (-1)))) .done) (.ret)
abbrev K30_4:C:=.cond 4 (.v 5) K30_3 (.skip)
abbrev K30_5:C:=.seq (.pl <| .e 4 2 <|
 .m 4 1 <|
 .x 5 (.bin .lss (.v 4) (.c (.int .i64 0))) .done) K30_4
abbrev K30_6:Pl:=.m 1 10 .done
abbrev K30_7:C:=.seq (.pl <| .e 4 7 <|
 .m 4 0 <|
 .m 5 3 <|
 .x 6 (.ia 2 (.v 4) (.v 5)) <|
 .x 7 (.fa 1 (.v 6)) <|
 .l 8 7 <|
 .m 9 1 <|
 .c 10 (.call fn_laws_heldEdgeS [.v 8,.v 9]) K30_6) K30_5
abbrev K30_8:C:=.seq (.pl <| .e 4 2 <|
 .m 4 1 <|
 .x 5 (.bin .add (.v 4) (.c (.int .i64 1))) <|
 .m 1 5 .done) K30_7
abbrev K30_9:C:=.seq (.pl <| .e 4 0 <|
 .x 2 (.mv (.c (.int .i64 (-1)))) .done) (.ret)
abbrev K30_10:C:=.cond 4 (.v 10) K30_9 (.skip)
abbrev K30_11:C:=.seq (.block 1 (.seq (.seq (.pl <| .e 4 7 <|
 .m 4 0 <|
 .m 5 3 <|
 .x 6 (.ia 2 (.v 4) (.v 5)) <|
 .x 7 (.fa 0 (.v 6)) <|
 .l 8 7 <|
 .m 9 1 <|
 .x 10 (.bin .neq (.v 8) (.v 9)) .done) K30_10) K30_8)) K30_2
abbrev K30_12:C:=.cond 4 (.v 7) (.skip) (.exit 0)
abbrev K30_13:C:=.seq (.seq (.pl <| .e 4 4 <|
 .m 4 3 <|
 .m 5 0 <|
 .x 6 (.lenV (.v 5)) <|
 .x 7 (.bin .lss (.v 4) (.v 6)) .done) K30_12) K30_11
abbrev K30_14:C:=.block 0 (.loop 4 [2] K30_13)
abbrev K30_15:C:=.seq (.seq (.pl <| .e 4 0 <|
 .x 3 (.mv (.c (.int .i64 0))) .done) K30_14) K30_1
abbrev B_laws_heldProcessS:C:=.seq (.pl <| .e 4 0 <|
 .x 2 (.mv (.c (.int .i64 0))) .done) K30_15
def R_laws_heldProcessS:FIR:=⟨B_laws_heldProcessS,4,[(2,none)]⟩
theorem IR_laws_heldProcessS:cfun Tryz.prog H_laws_heldProcessS Tryz.f30=some R_laws_heldProcessS:=by kernel_rfl
theorem EN_laws_heldProcessS:ENT Tryz.prog B_laws_heldProcessS [(2,none)] 2 4 fn_laws_heldProcessS:=fun hargs hw=>enter Tryz.func30 rfl IR_laws_heldProcessS hargs hw
def H_laws_heldSystem:Hint:=⟨[(0,false),(1,false),(2,true),(4,false)],[]⟩
abbrev K9_1:C:=.seq (.pl <| .e 4 1 <|
 .m 4 1 <|
 .m 3 4 .done) (.ret)
abbrev K9_2:C:=.seq (.pl <| .e 4 0 <|
 .x 3 (.mv (.c (.int .i64 (-1)))) .done) (.ret)
abbrev K9_3:C:=.cond 4 (.v 5) K9_2 (.skip)
abbrev K9_4:C:=.seq (.seq (.pl <| .e 4 2 <|
 .m 4 1 <|
 .x 5 (.bin .lss (.v 4) (.c (.int .i64 0))) .done) K9_3) K9_1
abbrev K9_5:Pl:=.m 1 7 .done
abbrev K9_6:C:=.seq (.pl <| .e 4 4 <|
 .a 4 2 <|
 .g 5 4 2 1 <|
 .m 6 1 <|
 .c 7 (.call fn_laws_heldProcessS [.v 5,.v 6]) K9_5) K9_4
abbrev K9_7:C:=.seq (.pl <| .e 4 0 <|
 .x 3 (.mv (.c (.int .i64 (-1)))) .done) (.ret)
abbrev K9_8:C:=.cond 4 (.v 5) K9_7 (.skip)
abbrev K9_9:C:=.seq (.seq (.pl <| .e 4 2 <|
 .m 4 1 <|
 .x 5 (.bin .lss (.v 4) (.c (.int .i64 0))) .done) K9_8) K9_6
abbrev K9_10:Pl:=.m 1 7 .done
abbrev K9_11:C:=.seq (.pl <| .e 4 4 <|
 .a 4 2 <|
 .g 5 4 2 0 <|
 .m 6 1 <|
 .c 7 (.call fn_laws_heldIntS [.v 5,.v 6]) K9_10) K9_9
abbrev B_laws_heldSystem:C:=.seq (.pl <| .e 4 0 <|
 .o (.pnew 2 (.v 0) []) <|
 .x 3 (.mv (.c (.int .i64 0))) .done) K9_11
def R_laws_heldSystem:FIR:=⟨B_laws_heldSystem,4,[(3,none)]⟩
theorem IR_laws_heldSystem:cfun Tryz.prog H_laws_heldSystem Tryz.f9=some R_laws_heldSystem:=by kernel_rfl
theorem EN_laws_heldSystem:ENT Tryz.prog B_laws_heldSystem [(3,none)] 2 4 fn_laws_heldSystem:=fun hargs hw=>enter Tryz.func9 rfl IR_laws_heldSystem hargs hw
def H_laws_markEdgeS:Hint:=⟨[(0,false),(1,false),(4,false),(5,false)],[[2]]⟩
abbrev K64_1:C:=.seq (.pl <| .e 4 1 <|
 .m 4 1 <|
 .m 2 4 .done) (.ret)
abbrev K64_2:C:=.pl <| .e 4 2 <|
 .m 4 3 <|
 .x 5 (.bin .add (.v 4) (.c (.int .i64 1))) <|
 .m 3 5 .done
abbrev K64_3:C:=.pl <| .e 4 2 <|
 .m 4 1 <|
 .x 5 (.bin .add (.v 4) (.c (.int .i64 1))) <|
 .m 1 5 .done
abbrev K64_4:C:=.seq (.pl <| .e 4 5 <|
 .m 4 0 <|
 .m 5 3 <|
 .m 6 1 <|
 .x 7 (.ia 10 (.v 4) (.v 5)) <|
 .x 8 (.fa 9 (.v 7)) <|
 .o (.ex none (.store 1 (.v 8) (.v 6))) .done) K64_3
abbrev K64_5:Pl:=.m 1 11 .done
abbrev K64_6:C:=.seq (.pl <| .e 4 8 <|
 .m 4 0 <|
 .m 5 3 <|
 .x 6 (.ia 10 (.v 4) (.v 5)) <|
 .x 7 (.fa 6 (.v 6)) <|
 .x 8 (.fa 2 (.v 7)) <|
 .l 9 8 <|
 .m 10 1 <|
 .c 11 (.call fn_laws_markExprS [.v 9,.v 10]) K64_5) K64_4
abbrev K64_7:C:=.seq (.pl <| .e 4 2 <|
 .m 4 1 <|
 .x 5 (.bin .add (.v 4) (.c (.int .i64 1))) <|
 .m 1 5 .done) K64_6
abbrev K64_8:C:=.seq (.pl <| .e 4 6 <|
 .m 4 0 <|
 .m 5 3 <|
 .m 6 1 <|
 .x 7 (.ia 10 (.v 4) (.v 5)) <|
 .x 8 (.fa 6 (.v 7)) <|
 .x 9 (.fa 1 (.v 8)) <|
 .o (.ex none (.store 1 (.v 9) (.v 6))) .done) K64_7
abbrev K64_9:C:=.seq (.pl <| .e 4 2 <|
 .m 4 1 <|
 .x 5 (.bin .add (.v 4) (.c (.int .i64 1))) <|
 .m 1 5 .done) K64_8
abbrev K64_10:C:=.seq (.pl <| .e 4 6 <|
 .m 4 0 <|
 .m 5 3 <|
 .m 6 1 <|
 .x 7 (.ia 10 (.v 4) (.v 5)) <|
 .x 8 (.fa 6 (.v 7)) <|
 .x 9 (.fa 0 (.v 8)) <|
 .o (.ex none (.store 1 (.v 9) (.v 6))) .done) K64_9
abbrev K64_11:C:=.seq (.pl <| .e 4 2 <|
 .m 4 1 <|
 .x 5 (.bin .add (.v 4) (.c (.int .i64 1))) <|
 .m 1 5 .done) K64_10
abbrev K64_12:C:=.seq (.pl <| .e 4 5 <|
 .m 4 0 <|
 .m 5 3 <|
 .m 6 1 <|
 .x 7 (.ia 10 (.v 4) (.v 5)) <|
 .x 8 (.fa 5 (.v 7)) <|
 .o (.ex none (.store 1 (.v 8) (.v 6))) .done) K64_11
abbrev K64_13:Pl:=.m 1 11 .done
abbrev K64_14:C:=.seq (.pl <| .e 4 8 <|
 .m 4 0 <|
 .m 5 3 <|
 .x 6 (.ia 10 (.v 4) (.v 5)) <|
 .x 7 (.fa 2 (.v 6)) <|
 .x 8 (.fa 2 (.v 7)) <|
 .l 9 8 <|
 .m 10 1 <|
 .c 11 (.call fn_laws_markExprS [.v 9,.v 10]) K64_13) K64_12
abbrev K64_15:C:=.seq (.pl <| .e 4 2 <|
 .m 4 1 <|
 .x 5 (.bin .add (.v 4) (.c (.int .i64 1))) <|
 .m 1 5 .done) K64_14
abbrev K64_16:C:=.seq (.pl <| .e 4 6 <|
 .m 4 0 <|
 .m 5 3 <|
 .m 6 1 <|
 .x 7 (.ia 10 (.v 4) (.v 5)) <|
 .x 8 (.fa 2 (.v 7)) <|
 .x 9 (.fa 1 (.v 8)) <|
 .o (.ex none (.store 1 (.v 9) (.v 6))) .done) K64_15
abbrev K64_17:C:=.seq (.pl <| .e 4 2 <|
 .m 4 1 <|
 .x 5 (.bin .add (.v 4) (.c (.int .i64 1))) <|
 .m 1 5 .done) K64_16
abbrev K64_18:C:=.seq (.pl <| .e 4 6 <|
 .m 4 0 <|
 .m 5 3 <|
 .m 6 1 <|
 .x 7 (.ia 10 (.v 4) (.v 5)) <|
 .x 8 (.fa 2 (.v 7)) <|
 .x 9 (.fa 0 (.v 8)) <|
 .o (.ex none (.store 1 (.v 9) (.v 6))) .done) K64_17
abbrev K64_19:C:=.seq (.pl <| .e 4 2 <|
 .m 4 1 <|
 .x 5 (.bin .add (.v 4) (.c (.int .i64 1))) <|
 .m 1 5 .done) K64_18
abbrev K64_20:C:=.seq (.pl <| .e 4 5 <|
 .m 4 0 <|
 .m 5 3 <|
 .m 6 1 <|
 .x 7 (.ia 10 (.v 4) (.v 5)) <|
 .x 8 (.fa 1 (.v 7)) <|
 .o (.ex none (.store 1 (.v 8) (.v 6))) .done) K64_19
abbrev K64_21:C:=.seq (.pl <| .e 4 2 <|
 .m 4 1 <|
 .x 5 (.bin .add (.v 4) (.c (.int .i64 1))) <|
 .m 1 5 .done) K64_20
abbrev K64_22:C:=.seq (.block 1 (.seq (.pl <| .e 4 5 <|
 .m 4 0 <|
 .m 5 3 <|
 .m 6 1 <|
 .x 7 (.ia 10 (.v 4) (.v 5)) <|
 .x 8 (.fa 0 (.v 7)) <|
 .o (.ex none (.store 1 (.v 8) (.v 6))) .done) K64_21)) K64_2
abbrev K64_23:C:=.cond 4 (.v 7) (.skip) (.exit 0)
abbrev K64_24:C:=.seq (.seq (.pl <| .e 4 4 <|
 .m 4 3 <|
 .m 5 0 <|
 .x 6 (.lenV (.v 5)) <|
 .x 7 (.bin .lss (.v 4) (.v 6)) .done) K64_23) K64_22
abbrev K64_25:C:=.block 0 (.loop 4 [2] K64_24)
abbrev K64_26:C:=.seq (.seq (.pl <| .e 4 0 <|
 .x 3 (.mv (.c (.int .i64 0))) .done) K64_25) K64_1
abbrev B_laws_markEdgeS:C:=.seq (.pl <| .e 4 0 <|
 .x 2 (.mv (.c (.int .i64 0))) .done) K64_26
def R_laws_markEdgeS:FIR:=⟨B_laws_markEdgeS,4,[(2,none)]⟩
theorem IR_laws_markEdgeS:cfun Tryz.prog H_laws_markEdgeS Tryz.f64=some R_laws_markEdgeS:=by kernel_rfl
theorem EN_laws_markEdgeS:ENT Tryz.prog B_laws_markEdgeS [(2,none)] 2 4 fn_laws_markEdgeS:=fun hargs hw=>enter Tryz.func64 rfl IR_laws_markEdgeS hargs hw
def H_laws_markExprS:Hint:=⟨[(0,false),(1,false),(4,false),(5,false)],[[2]]⟩
abbrev K96_1:C:=.seq (.pl <| .e 4 1 <|
 .m 4 1 <|
 .m 2 4 .done) (.ret)
abbrev K96_2:C:=.pl <| .e 4 2 <|
 .m 4 3 <|
 .x 5 (.bin .add (.v 4) (.c (.int .i64 1))) <|
 .m 3 5 .done
abbrev K96_3:Pl:=.m 1 10 .done
abbrev K96_4:C:=.pl <| .e 4 7 <|
 .m 4 0 <|
 .m 5 3 <|
 .x 6 (.ia 3 (.v 4) (.v 5)) <|
 .x 7 (.fa 2 (.v 6)) <|
 .l 8 7 <|
 .m 9 1 <|
 .c 10 (.call fn_laws_markExprS [.v 8,.v 9]) K96_3
abbrev K96_5:C:=.seq (.pl <| .e 4 2 <|
 .m 4 1 <|
 .x 5 (.bin .add (.v 4) (.c (.int .i64 1))) <|
 .m 1 5 .done) K96_4
abbrev K96_6:C:=.seq (.pl <| .e 4 5 <|
 .m 4 0 <|
 .m 5 3 <|
 .m 6 1 <|
 .x 7 (.ia 3 (.v 4) (.v 5)) <|
 .x 8 (.fa 1 (.v 7)) <|
 .o (.ex none (.store 1 (.v 8) (.v 6))) .done) K96_5
abbrev K96_7:C:=.seq (.pl <| .e 4 2 <|
 .m 4 1 <|
 .x 5 (.bin .add (.v 4) (.c (.int .i64 1))) <|
 .m 1 5 .done) K96_6
abbrev K96_8:C:=.seq (.block 1 (.seq (.pl <| .e 4 5 <|
 .m 4 0 <|
 .m 5 3 <|
 .m 6 1 <|
 .x 7 (.ia 3 (.v 4) (.v 5)) <|
 .x 8 (.fa 0 (.v 7)) <|
 .o (.ex none (.store 1 (.v 8) (.v 6))) .done) K96_7)) K96_2
abbrev K96_9:C:=.cond 4 (.v 7) (.skip) (.exit 0)
abbrev K96_10:C:=.seq (.seq (.pl <| .e 4 4 <|
 .m 4 3 <|
 .m 5 0 <|
 .x 6 (.lenV (.v 5)) <|
 .x 7 (.bin .lss (.v 4) (.v 6)) .done) K96_9) K96_8
abbrev K96_11:C:=.block 0 (.loop 4 [2] K96_10)
abbrev K96_12:C:=.seq (.seq (.pl <| .e 4 0 <|
 .x 3 (.mv (.c (.int .i64 0))) .done) K96_11) K96_1
abbrev B_laws_markExprS:C:=.seq (.pl <| .e 4 0 <|
 .x 2 (.mv (.c (.int .i64 0))) .done) K96_12
def R_laws_markExprS:FIR:=⟨B_laws_markExprS,4,[(2,none)]⟩
theorem IR_laws_markExprS:cfun Tryz.prog H_laws_markExprS Tryz.f96=some R_laws_markExprS:=by kernel_rfl
theorem EN_laws_markExprS:ENT Tryz.prog B_laws_markExprS [(2,none)] 2 4 fn_laws_markExprS:=fun hargs hw=>enter Tryz.func96 rfl IR_laws_markExprS hargs hw
def H_laws_markIntS:Hint:=⟨[(0,false),(1,false),(4,false),(5,false)],[[2]]⟩
abbrev K27_1:C:=.seq (.pl <| .e 4 1 <|
 .m 4 1 <|
 .m 2 4 .done) (.ret)
abbrev K27_2:C:=.pl <| .e 4 2 <|
 .m 4 3 <|
 .x 5 (.bin .add (.v 4) (.c (.int .i64 1))) <|
 .m 3 5 .done
abbrev K27_3:C:=.pl <| .e 4 2 <|
 .m 4 1 <|
 .x 5 (.bin .add (.v 4) (.c (.int .i64 1))) <|
 .m 1 5 .done
abbrev K27_4:C:=.seq (.block 1 (.seq (.pl <| .e 4 4 <|
 .m 4 0 <|
 .m 5 3 <|
 .m 6 1 <|
 .x 7 (.ia 1 (.v 4) (.v 5)) <|
 .o (.ex none (.store 1 (.v 7) (.v 6))) .done) K27_3)) K27_2
abbrev K27_5:C:=.cond 4 (.v 7) (.skip) (.exit 0)
abbrev K27_6:C:=.seq (.seq (.pl <| .e 4 4 <|
 .m 4 3 <|
 .m 5 0 <|
 .x 6 (.lenV (.v 5)) <|
 .x 7 (.bin .lss (.v 4) (.v 6)) .done) K27_5) K27_4
abbrev K27_7:C:=.block 0 (.loop 4 [2] K27_6)
abbrev K27_8:C:=.seq (.seq (.pl <| .e 4 0 <|
 .x 3 (.mv (.c (.int .i64 0))) .done) K27_7) K27_1
abbrev B_laws_markIntS:C:=.seq (.pl <| .e 4 0 <|
 .x 2 (.mv (.c (.int .i64 0))) .done) K27_8
def R_laws_markIntS:FIR:=⟨B_laws_markIntS,4,[(2,none)]⟩
theorem IR_laws_markIntS:cfun Tryz.prog H_laws_markIntS Tryz.f27=some R_laws_markIntS:=by kernel_rfl
theorem EN_laws_markIntS:ENT Tryz.prog B_laws_markIntS [(2,none)] 2 4 fn_laws_markIntS:=fun hargs hw=>enter Tryz.func27 rfl IR_laws_markIntS hargs hw
def H_laws_markProcessS:Hint:=⟨[(0,false),(1,false),(4,false),(5,false)],[[2]]⟩
abbrev K28_1:C:=.seq (.pl <| .e 4 1 <|
 .m 4 1 <|
 .m 2 4 .done) (.ret)
abbrev K28_2:C:=.pl <| .e 4 2 <|
 .m 4 3 <|
 .x 5 (.bin .add (.v 4) (.c (.int .i64 1))) <|
 .m 3 5 .done
abbrev K28_3:Pl:=.m 1 10 .done
abbrev K28_4:C:=.pl <| .e 4 7 <|
 .m 4 0 <|
 .m 5 3 <|
 .x 6 (.ia 2 (.v 4) (.v 5)) <|
 .x 7 (.fa 1 (.v 6)) <|
 .l 8 7 <|
 .m 9 1 <|
 .c 10 (.call fn_laws_markEdgeS [.v 8,.v 9]) K28_3
abbrev K28_5:C:=.seq (.pl <| .e 4 2 <|
 .m 4 1 <|
 .x 5 (.bin .add (.v 4) (.c (.int .i64 1))) <|
 .m 1 5 .done) K28_4
abbrev K28_6:C:=.seq (.block 1 (.seq (.pl <| .e 4 5 <|
 .m 4 0 <|
 .m 5 3 <|
 .m 6 1 <|
 .x 7 (.ia 2 (.v 4) (.v 5)) <|
 .x 8 (.fa 0 (.v 7)) <|
 .o (.ex none (.store 1 (.v 8) (.v 6))) .done) K28_5)) K28_2
abbrev K28_7:C:=.cond 4 (.v 7) (.skip) (.exit 0)
abbrev K28_8:C:=.seq (.seq (.pl <| .e 4 4 <|
 .m 4 3 <|
 .m 5 0 <|
 .x 6 (.lenV (.v 5)) <|
 .x 7 (.bin .lss (.v 4) (.v 6)) .done) K28_7) K28_6
abbrev K28_9:C:=.block 0 (.loop 4 [2] K28_8)
abbrev K28_10:C:=.seq (.seq (.pl <| .e 4 0 <|
 .x 3 (.mv (.c (.int .i64 0))) .done) K28_9) K28_1
abbrev B_laws_markProcessS:C:=.seq (.pl <| .e 4 0 <|
 .x 2 (.mv (.c (.int .i64 0))) .done) K28_10
def R_laws_markProcessS:FIR:=⟨B_laws_markProcessS,4,[(2,none)]⟩
theorem IR_laws_markProcessS:cfun Tryz.prog H_laws_markProcessS Tryz.f28=some R_laws_markProcessS:=by kernel_rfl
theorem EN_laws_markProcessS:ENT Tryz.prog B_laws_markProcessS [(2,none)] 2 4 fn_laws_markProcessS:=fun hargs hw=>enter Tryz.func28 rfl IR_laws_markProcessS hargs hw
def H_laws_markSystem:Hint:=⟨[(0,false),(1,false),(2,true),(4,false)],[]⟩
abbrev K8_1:C:=.seq (.pl <| .e 4 1 <|
 .m 4 1 <|
 .m 3 4 .done) (.ret)
abbrev K8_2:Pl:=.m 1 7 .done
abbrev K8_3:C:=.seq (.pl <| .e 4 4 <|
 .a 4 2 <|
 .g 5 4 2 1 <|
 .m 6 1 <|
 .c 7 (.call fn_laws_markProcessS [.v 5,.v 6]) K8_2) K8_1
abbrev K8_4:Pl:=.m 1 7 .done
abbrev K8_5:C:=.seq (.pl <| .e 4 4 <|
 .a 4 2 <|
 .g 5 4 2 0 <|
 .m 6 1 <|
 .c 7 (.call fn_laws_markIntS [.v 5,.v 6]) K8_4) K8_3
abbrev B_laws_markSystem:C:=.seq (.pl <| .e 4 0 <|
 .o (.pnew 2 (.v 0) []) <|
 .x 3 (.mv (.c (.int .i64 0))) .done) K8_5
def R_laws_markSystem:FIR:=⟨B_laws_markSystem,4,[(3,none)]⟩
theorem IR_laws_markSystem:cfun Tryz.prog H_laws_markSystem Tryz.f8=some R_laws_markSystem:=by kernel_rfl
theorem EN_laws_markSystem:ENT Tryz.prog B_laws_markSystem [(3,none)] 2 4 fn_laws_markSystem:=fun hargs hw=>enter Tryz.func8 rfl IR_laws_markSystem hargs hw
theorem c_eqIntS {h:Heap}{a b:Value}{x y:List Int}(Ra:Rep h a x) (Rb:Rep h b y):CallE Tryz.prog fn_laws_eqIntS [a,b] h (fun v h'=>h'=h∧v=.bool (decide (x=y))):=by
 refine CallE.gen fun k hk=>EN_laws_eqIntS rfl ?_
 have hL:=Ra.lt
 simp -implicitDefEqProofs (disch:=first|omega|(simp only[LnZ];omega))[wrap64,Ra.len,Rb.len]
 refine IteW.mkr (fun hne=>?_) (fun heq=>?_)
 ·simp -implicitDefEqProofs (disch:=omega)[wrap64]
  exact RetK.keep (hk _ _ ⟨rfl,by simp;rintro rfl;exact hne rfl⟩)
 simp -implicitDefEqProofs (disch:=omega)[wrap64]
 refine wp_count x.length (fun i e h'=>h'=h∧e=[some a,some b,none,some (.int .i64 i)]∧x.take i=y.take i) ⟨rfl,rfl,rfl⟩ ?_
 rintro J i _ _ hJ hi ⟨rfl,rfl,hxy⟩
 simp -implicitDefEqProofs (disch:=first|omega|(simp only[LnZ];omega))[wrap64,Ra.len]
 refine IteW.mk (fun hlt=>?_) (fun hge=>?_)
 ·have hly:i<y.length:=by omega
  have hlx:i<x.length:=by omega
  simp -implicitDefEqProofs (disch:=first|omega|(simp only[LnZ];omega))[wrap64,Ra.I,Rb.I]
  refine IteW.mkr (fun hne=>?_) (fun heq=>?_)
  ·simp -implicitDefEqProofs (disch:=omega)[wrap64]
   exact RetK.keep (hk _ _ ⟨rfl,by simp;rintro rfl;exact hne rfl⟩)
  simp -implicitDefEqProofs (disch:=omega)[wrap64]
  exact hJ _ _ hlx ⟨rfl,rfl,take_step hxy hlx hly heq⟩
 ·simp -implicitDefEqProofs (disch:=omega)[wrap64]
  refine RetK.keep (hk _ _ ⟨rfl,?_⟩)
  simp
  rw[List.take_of_length_le (by omega),List.take_of_length_le (by omega)] at hxy
  exact hxy
theorem c_markIntS {g h:Heap}{Γ:List HP}{v:Value}{x:List Int}{k0:Int}(H:HS g (ow v x::Γ) h) (hk0:0≤k0) (hk1:k0+Mk.cnt x<4611686018427387904):CallE Tryz.prog fn_laws_markIntS [v,.int .i64 k0] h (fun u h'=>HS g (ow v (Mk.wr k0 x)::Γ) h'∧u=.int .i64 (k0+Mk.cnt x)):=by
 refine CallE.gen fun k hk=>EN_laws_markIntS rfl ?_
 simp -implicitDefEqProofs (disch:=omega)[wrap64]
 refine wp_count x.length (fun i e h'=>e=[some v,some (.int .i64 (k0+cntL (x.take i))),none,some (.int .i64 i)]∧∃y,HS g (ow v y::Γ) h'∧Mkd k0 x y i) ⟨by simp[cntL],x,H,Mkd.zero⟩ ?_
 rintro J i _ h2 hJ hi ⟨rfl,y,H,M⟩
 have hl:=M.len
 have hL:=H.rep.lt
 have hcx:Mk.cnt x=cntL x:=rfl
 simp -implicitDefEqProofs (disch:=first|omega|(simp only[LnZ];omega))[wrap64,H.rep.len]
 refine IteW.mk (fun hlt=>?_) (fun hge=>?_)
 ·have hlx:i<x.length:=by omega
  have hly:i<y.length:=by omega
  have hb:=cntL_le x (i+1)
  have hc:=cntL_take x i hlx
  have h1:Mk.cnt x[i]=1:=rfl
  have h4:IntKind.i64.wrap (k0+(cntL (x.take i):Nat)+1)=k0+(cntL (x.take i):Nat)+1:=wrap64 (by omega) (by omega)
  simp -implicitDefEqProofs (disch:=first|omega|(simp only[LnZ];omega))[wrap64,H.rep.I]
  refine H.storeF (k0+cntL (x.take i)) hly rfl rfl ⟨by omega,by omega⟩ rfl fun h3 H=>?_
  simp -implicitDefEqProofs (disch:=omega)[wrap64]
  refine hJ _ _ hlx ⟨?_,_,H,M.step hlx⟩
  rw[hc,h1];push_cast;simp[Int.add_assoc]
 ·simp -implicitDefEqProofs (disch:=omega)[wrap64]
  have h2:x.take i=x:=List.take_of_length_le (by omega)
  refine RetK.keep (hk _ _ ⟨?_,by rw[h2];rfl⟩)
  have h3:y=Mk.wr k0 x:=M.all (by omega)
  rw[← h3];exact H
theorem i64_0:I64 0:=⟨by decide,by decide⟩
def Ed.zero:Ed:=⟨0,0,Exq.zero,0,Exq.zero,0⟩
def Pr.zero:Pr:=⟨0,[]⟩
theorem c_eqExprS_of {h:Heap}{a b:Value}{x y:List Exq}(ih:∀z∈x,∀{h:Heap}{a b:Value}{w:Exq},Rep h a z→Rep h b w→CallE Tryz.prog fn_laws_eqExpr [a,b] h (fun v h'=>h'=h∧v=.bool (decide (z=w)))) (Ra:Rep h a x) (Rb:Rep h b y):CallE Tryz.prog fn_laws_eqExprS [a,b] h (fun v h'=>h'=h∧v=.bool (decide (x=y))):=by
 refine CallE.gen fun k hk=>EN_laws_eqExprS rfl ?_
 have hL:=Ra.lt
 simp -implicitDefEqProofs (disch:=first|omega|(simp only[LnZ];omega))[wrap64,Ra.len,Rb.len]
 refine IteW.mkr (fun hne=>?_) (fun heq=>?_)
 ·simp -implicitDefEqProofs (disch:=omega)[wrap64]
  exact RetK.keep (hk _ _ ⟨rfl,by simp;rintro rfl;exact hne rfl⟩)
 simp -implicitDefEqProofs (disch:=omega)[wrap64]
 refine wp_count x.length (fun i e h'=>h'=h∧e=[some a,some b,none,some (.int .i64 i)]∧x.take i=y.take i) ⟨rfl,rfl,rfl⟩ ?_
 rintro J i _ _ hJ hi ⟨rfl,rfl,hxy⟩
 simp -implicitDefEqProofs (disch:=first|omega|(simp only[LnZ];omega))[wrap64,Ra.len]
 refine IteW.mk (fun hlt=>?_) (fun hge=>?_)
 ·have hly:i<y.length:=by omega
  have hlx:i<x.length:=by omega
  obtain⟨u,hu,Ru⟩:=Ra.ld hlx
  obtain⟨w,hw,Rw⟩:=Rb.ld hly
  change hload _ (some (elp 3 a i)) (some 3)=some u at hu
  change hload _ (some (elp 3 b i)) (some 3)=some w at hw
  simp -implicitDefEqProofs (disch:=first|omega|(simp only[LnZ];omega))[wrap64,Ra.X (n:=3) rfl,Rb.X (n:=3) rfl,hu,hw]
  refine (ih _ (List.getElem_mem hlx) Ru Rw).go ?_
  rintro _ _ ⟨rfl,rfl⟩
  simp -implicitDefEqProofs (disch:=omega)[wrap64]
  refine IteW.mkr (fun hne=>?_) (fun heq=>?_)
  ·simp -implicitDefEqProofs (disch:=omega)[wrap64]
   exact RetK.keep (hk _ _ ⟨rfl,by simp;rintro rfl;exact hne rfl⟩)
  simp -implicitDefEqProofs (disch:=omega)[wrap64]
  exact hJ _ _ hlx ⟨rfl,rfl,take_step hxy hlx hly heq⟩
 ·simp -implicitDefEqProofs (disch:=omega)[wrap64]
  refine RetK.keep (hk _ _ ⟨rfl,?_⟩)
  simp
  rw[List.take_of_length_le (by omega),List.take_of_length_le (by omega)] at hxy
  exact hxy
theorem c_eqExpr':∀(x:Exq) {h:Heap}{a b:Value}{y:Exq},Rep h a x→Rep h b y→CallE Tryz.prog fn_laws_eqExpr [a,b] h (fun v h'=>h'=h∧v=.bool (decide (x=y))):=by
 refine Exq.ind fun x ih h a b y Ra Rb=>?_
 obtain⟨w,rfl,k1,k2,R1⟩:=Rep_Exq.1 Ra
 obtain⟨w2,rfl,k3,k4,R2⟩:=Rep_Exq.1 Rb
 refine CallE.gen fun k hk=>EN_laws_eqExpr rfl ?_
 simp -implicitDefEqProofs (disch:=omega)[wrap64]
 refine IteW.mkr (fun h1=>?_) (fun h1=>?_)
 ·simp -implicitDefEqProofs (disch:=omega)[wrap64]
  exact RetK.keep (hk _ _ ⟨rfl,by simp[Exq.ext_iff',h1]⟩)
 simp -implicitDefEqProofs (disch:=omega)[wrap64]
 refine IteW.mkr (fun h2=>?_) (fun h2=>?_)
 ·simp -implicitDefEqProofs (disch:=omega)[wrap64]
  exact RetK.keep (hk _ _ ⟨rfl,by simp[Exq.ext_iff',h2]⟩)
 simp -implicitDefEqProofs (disch:=omega)[wrap64]
 refine (c_eqExprS_of ih R1 R2).go ?_
 rintro _ _ ⟨rfl,rfl⟩
 simp -implicitDefEqProofs (disch:=omega)[wrap64]
 refine IteW.mkr (fun h3=>?_) (fun h3=>?_)
 ·simp -implicitDefEqProofs (disch:=omega)[wrap64]
  exact RetK.keep (hk _ _ ⟨rfl,by simp[Exq.ext_iff',h3]⟩)
 simp -implicitDefEqProofs (disch:=omega)[wrap64]
 exact RetK.keep (hk _ _ ⟨rfl,by simp[Exq.ext_iff',h1,h2,h3]⟩)
theorem c_eqExpr {x:Exq}{h:Heap}{a b:Value}{y:Exq}(Ra:Rep h a x) (Rb:Rep h b y):CallE Tryz.prog fn_laws_eqExpr [a,b] h (fun v h'=>h'=h∧v=.bool (decide (x=y))):=c_eqExpr' x Ra Rb
theorem c_eqEdge {x y:Ed}{h:Heap}{a b:Value}(Ra:Rep h a x) (Rb:Rep h b y):CallE Tryz.prog fn_laws_eqEdge [a,b] h (fun v h'=>h'=h∧v=.bool (decide (x=y))):=by
 obtain⟨w1,w2,rfl,ok,R1,R2⟩:=Rep_Ed.1 Ra
 obtain⟨w3,w4,rfl,ok2,R3,R4⟩:=Rep_Ed.1 Rb
 have G1:Rep h (.agg #[.int .i64 x.guard.kind,.int .i64 x.guard.val,w1]) x.guard:=Rep_Exq.2 ⟨w1,rfl,ok.gk,ok.gv,R1⟩
 have G2:Rep h (.agg #[.int .i64 x.value.kind,.int .i64 x.value.val,w2]) x.value:=Rep_Exq.2 ⟨w2,rfl,ok.vk,ok.vv,R2⟩
 have G3:Rep h (.agg #[.int .i64 y.guard.kind,.int .i64 y.guard.val,w3]) y.guard:=Rep_Exq.2 ⟨w3,rfl,ok2.gk,ok2.gv,R3⟩
 have G4:Rep h (.agg #[.int .i64 y.value.kind,.int .i64 y.value.val,w4]) y.value:=Rep_Exq.2 ⟨w4,rfl,ok2.vk,ok2.vv,R4⟩
 refine CallE.gen fun k hk=>EN_laws_eqEdge rfl ?_
 simp -implicitDefEqProofs (disch:=first|omega|(simp only[LnZ];omega))[wrap64,Ed.cs]
 refine IteW.mkr (fun h1=>?_) (fun h1=>?_)
 ·simp -implicitDefEqProofs (disch:=omega)[wrap64]
  exact RetK.keep (hk _ _ ⟨rfl,by simp[Ed.ext_iff',h1]⟩)
 simp -implicitDefEqProofs (disch:=first|omega|(simp only[LnZ];omega))[wrap64,Ed.cs]
 refine IteW.mkr (fun h2=>?_) (fun h2=>?_)
 ·simp -implicitDefEqProofs (disch:=omega)[wrap64]
  exact RetK.keep (hk _ _ ⟨rfl,by simp[Ed.ext_iff',h2]⟩)
 simp -implicitDefEqProofs (disch:=first|omega|(simp only[LnZ];omega))[wrap64,Ed.cs]
 refine (c_eqExpr G1 G3).go ?_
 rintro _ _ ⟨rfl,rfl⟩
 simp -implicitDefEqProofs (disch:=first|omega|(simp only[LnZ];omega))[wrap64,Ed.cs]
 refine IteW.mkr (fun h3=>?_) (fun h3=>?_)
 ·simp -implicitDefEqProofs (disch:=omega)[wrap64]
  exact RetK.keep (hk _ _ ⟨rfl,by simp[Ed.ext_iff',h3]⟩)
 simp -implicitDefEqProofs (disch:=first|omega|(simp only[LnZ];omega))[wrap64,Ed.cs]
 refine IteW.mkr (fun h4=>?_) (fun h4=>?_)
 ·simp -implicitDefEqProofs (disch:=omega)[wrap64]
  exact RetK.keep (hk _ _ ⟨rfl,by simp[Ed.ext_iff',h4]⟩)
 simp -implicitDefEqProofs (disch:=first|omega|(simp only[LnZ];omega))[wrap64,Ed.cs]
 refine (c_eqExpr G2 G4).go ?_
 rintro _ _ ⟨rfl,rfl⟩
 simp -implicitDefEqProofs (disch:=first|omega|(simp only[LnZ];omega))[wrap64,Ed.cs]
 refine IteW.mkr (fun h5=>?_) (fun h5=>?_)
 ·simp -implicitDefEqProofs (disch:=omega)[wrap64]
  exact RetK.keep (hk _ _ ⟨rfl,by simp[Ed.ext_iff',h5]⟩)
 simp -implicitDefEqProofs (disch:=first|omega|(simp only[LnZ];omega))[wrap64,Ed.cs]
 refine IteW.mkr (fun h6=>?_) (fun h6=>?_)
 ·simp -implicitDefEqProofs (disch:=omega)[wrap64]
  exact RetK.keep (hk _ _ ⟨rfl,by simp[Ed.ext_iff',h6]⟩)
 simp -implicitDefEqProofs (disch:=omega)[wrap64]
 exact RetK.keep (hk _ _ ⟨rfl,by simp[Ed.ext_iff',h1,h2,h3,h4,h5,h6]⟩)
theorem c_eqEdgeS {h:Heap}{a b:Value}{x y:List Ed}(Ra:Rep h a x) (Rb:Rep h b y):CallE Tryz.prog fn_laws_eqEdgeS [a,b] h (fun v h'=>h'=h∧v=.bool (decide (x=y))):=by
 refine CallE.gen fun k hk=>EN_laws_eqEdgeS rfl ?_
 have hL:=Ra.lt
 simp -implicitDefEqProofs (disch:=first|omega|(simp only[LnZ];omega))[wrap64,Ra.len,Rb.len]
 refine IteW.mkr (fun hne=>?_) (fun heq=>?_)
 ·simp -implicitDefEqProofs (disch:=omega)[wrap64]
  exact RetK.keep (hk _ _ ⟨rfl,by simp;rintro rfl;exact hne rfl⟩)
 simp -implicitDefEqProofs (disch:=omega)[wrap64]
 refine wp_count x.length (fun i e h'=>h'=h∧e=[some a,some b,none,some (.int .i64 i)]∧x.take i=y.take i) ⟨rfl,rfl,rfl⟩ ?_
 rintro J i _ _ hJ hi ⟨rfl,rfl,hxy⟩
 simp -implicitDefEqProofs (disch:=first|omega|(simp only[LnZ];omega))[wrap64,Ra.len]
 refine IteW.mk (fun hlt=>?_) (fun hge=>?_)
 ·have hly:i<y.length:=by omega
  have hlx:i<x.length:=by omega
  obtain⟨u,hu,Ru⟩:=Ra.ld hlx
  obtain⟨w,hw,Rw⟩:=Rb.ld hly
  change hload _ (some (elp 10 a i)) (some 10)=some u at hu
  change hload _ (some (elp 10 b i)) (some 10)=some w at hw
  simp -implicitDefEqProofs (disch:=first|omega|(simp only[LnZ];omega))[wrap64,Ra.X (n:=10) rfl,Rb.X (n:=10) rfl,hu,hw]
  refine (c_eqEdge Ru Rw).go ?_
  rintro _ _ ⟨rfl,rfl⟩
  simp -implicitDefEqProofs (disch:=omega)[wrap64]
  refine IteW.mkr (fun hne=>?_) (fun heq=>?_)
  ·simp -implicitDefEqProofs (disch:=omega)[wrap64]
   exact RetK.keep (hk _ _ ⟨rfl,by simp;rintro rfl;exact hne rfl⟩)
  simp -implicitDefEqProofs (disch:=omega)[wrap64]
  exact hJ _ _ hlx ⟨rfl,rfl,take_step hxy hlx hly heq⟩
 ·simp -implicitDefEqProofs (disch:=omega)[wrap64]
  refine RetK.keep (hk _ _ ⟨rfl,?_⟩)
  simp
  rw[List.take_of_length_le (by omega),List.take_of_length_le (by omega)] at hxy
  exact hxy
theorem c_eqProcess {x y:Pr}{h:Heap}{a b:Value}(Ra:Rep h a x) (Rb:Rep h b y):CallE Tryz.prog fn_laws_eqProcess [a,b] h (fun v h'=>h'=h∧v=.bool (decide (x=y))):=by
 obtain⟨w,rfl,k1,R1⟩:=Rep_Pr.1 Ra
 obtain⟨w2,rfl,k3,R2⟩:=Rep_Pr.1 Rb
 refine CallE.gen fun k hk=>EN_laws_eqProcess rfl ?_
 simp -implicitDefEqProofs (disch:=omega)[wrap64]
 refine IteW.mkr (fun h1=>?_) (fun h1=>?_)
 ·simp -implicitDefEqProofs (disch:=omega)[wrap64]
  exact RetK.keep (hk _ _ ⟨rfl,by simp[Pr.ext_iff',h1]⟩)
 simp -implicitDefEqProofs (disch:=omega)[wrap64]
 refine (c_eqEdgeS R1 R2).go ?_
 rintro _ _ ⟨rfl,rfl⟩
 simp -implicitDefEqProofs (disch:=omega)[wrap64]
 refine IteW.mkr (fun h3=>?_) (fun h3=>?_)
 ·simp -implicitDefEqProofs (disch:=omega)[wrap64]
  exact RetK.keep (hk _ _ ⟨rfl,by simp[Pr.ext_iff',h3]⟩)
 simp -implicitDefEqProofs (disch:=omega)[wrap64]
 exact RetK.keep (hk _ _ ⟨rfl,by simp[Pr.ext_iff',h1,h3]⟩)
theorem c_eqProcessS {h:Heap}{a b:Value}{x y:List Pr}(Ra:Rep h a x) (Rb:Rep h b y):CallE Tryz.prog fn_laws_eqProcessS [a,b] h (fun v h'=>h'=h∧v=.bool (decide (x=y))):=by
 refine CallE.gen fun k hk=>EN_laws_eqProcessS rfl ?_
 have hL:=Ra.lt
 simp -implicitDefEqProofs (disch:=first|omega|(simp only[LnZ];omega))[wrap64,Ra.len,Rb.len]
 refine IteW.mkr (fun hne=>?_) (fun heq=>?_)
 ·simp -implicitDefEqProofs (disch:=omega)[wrap64]
  exact RetK.keep (hk _ _ ⟨rfl,by simp;rintro rfl;exact hne rfl⟩)
 simp -implicitDefEqProofs (disch:=omega)[wrap64]
 refine wp_count x.length (fun i e h'=>h'=h∧e=[some a,some b,none,some (.int .i64 i)]∧x.take i=y.take i) ⟨rfl,rfl,rfl⟩ ?_
 rintro J i _ _ hJ hi ⟨rfl,rfl,hxy⟩
 simp -implicitDefEqProofs (disch:=first|omega|(simp only[LnZ];omega))[wrap64,Ra.len]
 refine IteW.mk (fun hlt=>?_) (fun hge=>?_)
 ·have hly:i<y.length:=by omega
  have hlx:i<x.length:=by omega
  obtain⟨u,hu,Ru⟩:=Ra.ld hlx
  obtain⟨w,hw,Rw⟩:=Rb.ld hly
  change hload _ (some (elp 2 a i)) (some 2)=some u at hu
  change hload _ (some (elp 2 b i)) (some 2)=some w at hw
  simp -implicitDefEqProofs (disch:=first|omega|(simp only[LnZ];omega))[wrap64,Ra.X (n:=2) rfl,Rb.X (n:=2) rfl,hu,hw]
  refine (c_eqProcess Ru Rw).go ?_
  rintro _ _ ⟨rfl,rfl⟩
  simp -implicitDefEqProofs (disch:=omega)[wrap64]
  refine IteW.mkr (fun hne=>?_) (fun heq=>?_)
  ·simp -implicitDefEqProofs (disch:=omega)[wrap64]
   exact RetK.keep (hk _ _ ⟨rfl,by simp;rintro rfl;exact hne rfl⟩)
  simp -implicitDefEqProofs (disch:=omega)[wrap64]
  exact hJ _ _ hlx ⟨rfl,rfl,take_step hxy hlx hly heq⟩
 ·simp -implicitDefEqProofs (disch:=omega)[wrap64]
  refine RetK.keep (hk _ _ ⟨rfl,?_⟩)
  simp
  rw[List.take_of_length_le (by omega),List.take_of_length_le (by omega)] at hxy
  exact hxy
theorem c_eqSystem {h:Heap}{a b:Value}{x y:Sy}(Ra:Rep h a x) (Rb:Rep h b y):CallE Tryz.prog fn_laws_eqSystem [a,b] h (fun v h'=>h'=h∧v=.bool (decide (x=y))):=by
 obtain⟨v1,v2,rfl,R1,R2⟩:=Rep_Sy.1 Ra
 obtain⟨w1,w2,rfl,S1,S2⟩:=Rep_Sy.1 Rb
 refine CallE.gen fun k hk=>EN_laws_eqSystem rfl ?_
 simp -implicitDefEqProofs (disch:=omega)[wrap64]
 refine (c_eqIntS R1 S1).go ?_
 rintro _ _ ⟨rfl,rfl⟩
 simp -implicitDefEqProofs (disch:=omega)[wrap64]
 refine IteW.mkr (fun h1=>?_) (fun h1=>?_)
 ·simp -implicitDefEqProofs (disch:=omega)[wrap64]
  exact RetK.keep (hk _ _ ⟨rfl,by simp_all [Sy.ext_iff']⟩)
 simp -implicitDefEqProofs (disch:=omega)[wrap64]
 refine (c_eqProcessS R2 S2).go ?_
 rintro _ _ ⟨rfl,rfl⟩
 simp -implicitDefEqProofs (disch:=omega)[wrap64]
 refine IteW.mkr (fun h2=>?_) (fun h2=>?_)
 ·simp -implicitDefEqProofs (disch:=omega)[wrap64]
  exact RetK.keep (hk _ _ ⟨rfl,by simp_all [Sy.ext_iff']⟩)
 try simp -implicitDefEqProofs (disch:=omega)[wrap64]
 exact RetK.keep (hk _ _ ⟨rfl,by simp_all [Sy.ext_iff']⟩)
theorem c_IndexFunc_int {h:Heap}{a fv:Value}{x:List (Int)}(Ra:Rep h a x) {f:FuncId}{c1 c2:List Value}(hf:fnOf fv=some (f,c1,c2)) (p:(Int)→Bool)
  (hp:∀h1,h.le h1→∀(i:Nat) (hi:i<x.length) (u:Value),Rep h1 u x[i]→CallE Tryz.prog f (c1++u::c2) h1 (fun v h'=>h1.le h'∧v=.bool (p x[i]))) :
  CallE Tryz.prog fn_slices_IndexFunc_S_int_int [a,fv] h (fun v h'=>h.le h'∧v=.int .i64 (match x.findIdx? p with | some i=>(i:Int) | none=>-1)):=by
 refine CallE.gen fun k hk=>EN_slices_IndexFunc_S_int_int rfl ?_
 have hL:=Ra.lt
 simp -implicitDefEqProofs (disch:=first|omega|(simp only[LnZ];omega))[wrap64,Ra.len]
 refine wp_count x.length (fun i e h'=>e=[some a,some fv,none,none,some (.int .i64 x.length),some (.int .i64 i)]∧h.le h'∧∀(j:Nat) (hj:j<x.length),j<i→p x[j]=false) ⟨rfl,Heap.le.refl h,fun j _ hj=>absurd hj (Nat.not_lt_zero j)⟩ ?_
 rintro J i _ h1 hJ hi ⟨rfl,hl,hn⟩
 simp -implicitDefEqProofs (disch:=omega)[wrap64]
 refine IteW.mk (fun hlt=>?_) (fun hge=>?_)
 ·have hlx:i<x.length:=by omega
  obtain⟨u,hu,Ru⟩:=(Ra.le hl).ld hlx
  change hload _ (some (elp 1 a i)) none=some u at hu
  simp -implicitDefEqProofs (disch:=first|omega|(simp only[LnZ];omega))[wrap64,(Ra.le hl).X (n:=1) rfl,hu,hf]
  refine (hp h1 hl i hlx u Ru).go ?_
  rintro _ h2 ⟨hl2,rfl⟩
  simp -implicitDefEqProofs (disch:=omega)[wrap64]
  refine IteW.mk (fun hq=>?_) (fun hq=>?_)
  ·simp -implicitDefEqProofs (disch:=omega)[wrap64]
   refine RetK.keep (hk _ _ ⟨hl.trans hl2,?_⟩)
   have h3:x.findIdx? p=some i:=by
    rw[List.findIdx?_eq_some_iff_getElem]
    exact⟨hlx,hq,fun j hj=>by rw[hn j (by omega) hj];simp⟩
   rw[h3]
  ·simp -implicitDefEqProofs (disch:=omega)[wrap64]
   refine hJ _ _ hlx ⟨rfl,hl.trans hl2,fun j hj hji=>?_⟩
   by_cases hji2:j=i
   ·subst hji2;simpa using hq
   ·exact hn j hj (by omega)
 ·simp -implicitDefEqProofs (disch:=omega)[wrap64]
  refine RetK.keep (hk _ _ ⟨hl,?_⟩)
  have h3:x.findIdx? p=none:=by
   rw[List.findIdx?_eq_none_iff]
   intro y hy
   obtain⟨j,hj,rfl⟩:=List.mem_iff_getElem.1 hy
   exact hn j hj (by omega)
  rw[h3]
theorem c_ContainsFunc_int {h:Heap}{a fv:Value}{x:List (Int)}(Ra:Rep h a x) {f:FuncId}{c1 c2:List Value}(hf:fnOf fv=some (f,c1,c2)) (p:(Int)→Bool)
  (hp:∀h1,h.le h1→∀(i:Nat) (hi:i<x.length) (u:Value),Rep h1 u x[i]→CallE Tryz.prog f (c1++u::c2) h1 (fun v h'=>h1.le h'∧v=.bool (p x[i]))) :
  CallE Tryz.prog fn_slices_ContainsFunc_S_int_int [a,fv] h (fun v h'=>h.le h'∧v=.bool (x.any p)):=by
 refine CallE.gen fun k hk=>EN_slices_ContainsFunc_S_int_int rfl ?_
 simp -implicitDefEqProofs (disch:=omega)[wrap64]
 refine (c_IndexFunc_int Ra hf p hp).go ?_
 rintro _ h1 ⟨hl,rfl⟩
 simp -implicitDefEqProofs (disch:=omega)[wrap64]
 refine RetK.keep (hk _ _ ⟨hl,?_⟩)
 congr 1
 rw[← List.findIdx?_isSome]
 cases x.findIdx? p<;>simp
@[simp] theorem nilcV_ptr {a:Addr}:nilcV (.pointer (some a))=some (.pointer (some a)):=rfl
theorem c_in {h:Heap}{n lo hi:Int}:CallE Tryz.prog fn_impl_in [.int .i64 n,.int .i64 lo,.int .i64 hi] h (fun u h'=>h'=h∧u=.bool (decide (lo≤n∧n≤hi))):=by
 refine CallE.gen fun k hk=>EN_impl_in rfl ?_
 by_cases h1:lo≤n
 ·simp -implicitDefEqProofs (disch:=first|omega|(simp only[LnZ];omega))[wrap64,h1]
  exact RetK.keep (hk _ _ ⟨rfl,by simp[h1]⟩)
 ·simp -implicitDefEqProofs (disch:=first|omega|(simp only[LnZ];omega))[wrap64,h1]
  exact RetK.keep (hk _ _ ⟨rfl,by simp[h1]⟩)
def WalkQ (g:Heap) (Γ:List HP) (b n m:Nat) (x:Exq) (neg:Bool) (v:Value) (h':Heap):Prop:=
 ∃(n':Nat) (ok:Bool),v=.bool (ok != neg)∧HS g (bx b [.int .i64 n']::Γ) h'∧(ok=true↔x.Shp m∧n+x.nod≤15)∧(ok=true→n'=n+x.nod)
theorem c_IndexFunc_walk {g h:Heap}{Γ:List HP}{a fv:Value}{l:List Exq}{b n m:Nat}(Ra:Rep g a l) {f:FuncId}{c1 c2:List Value}(hf:fnOf fv=some (f,c1,c2)) (H:HS g (bx b [.int .i64 n]::Γ) h) (hn:n≤15)
  (hp:∀(i:Nat) (hi:i<l.length) (u:Value) (n:Nat) (h1:Heap),Rep g u l[i]→HS g (bx b [.int .i64 n]::Γ) h1→n≤15→CallE Tryz.prog f (c1++u::c2) h1 (WalkQ g Γ b n m l[i] true)) :
  CallE Tryz.prog fn_slices_IndexFunc_S_impl_Expr_impl_Expr [a,fv] h (fun v h'=>∃(n':Nat) (j:Int),v=.int .i64 j∧HS g (bx b [.int .i64 n']::Γ) h'∧(j<0↔(∀y∈l,y.Shp m)∧n+Exq.nods l≤15)∧(j<0→n'=n+Exq.nods l)):=by
 refine CallE.gen fun k hk=>EN_slices_IndexFunc_S_impl_Expr_impl_Expr rfl ?_
 have hL:=Ra.lt
 simp -implicitDefEqProofs (disch:=first|omega|(simp only[LnZ];omega))[wrap64,Ra.len]
 refine wp_count l.length (fun i e h'=>e=[some a,some fv,none,none,some (.int .i64 l.length),some (.int .i64 i)]∧HS g (bx b [.int .i64 ((n+Exq.nods (l.take i):Nat):Int)]::Γ) h'∧n+Exq.nods (l.take i)≤15∧∀(j:Nat) (hj:j<l.length),j<i→l[j].Shp m) ⟨rfl,by simpa[Exq.nods] using H,by simpa[Exq.nods] using hn,fun j _ hj=>absurd hj (Nat.not_lt_zero j)⟩ ?_
 clear H
 rintro J i _ h1 hJ hi ⟨rfl,H,hle,hall⟩
 simp -implicitDefEqProofs (disch:=omega)[wrap64]
 refine IteW.mk (fun hlt=>?_) (fun hge=>?_)
 ·have hlx:i<l.length:=by omega
  have hnt:=Exq.nods_take hlx
  have hnl:=Exq.nods_le l (i+1)
  obtain⟨u,hu,Ru⟩:=Ra.ld hlx
  have hu2:=hload_le H.base hu
  change hload _ (some (elp 3 a i)) (some 3)=some u at hu2
  simp -implicitDefEqProofs (disch:=first|omega|(simp only[LnZ];omega))[wrap64,Ra.X (n:=3) rfl,hu2,hf]
  refine (hp i hlx u _ h1 Ru H hle).go ?_
  rintro _ h2 ⟨n',ok,rfl,H,hok,hn'⟩
  simp -implicitDefEqProofs (disch:=omega)[wrap64]
  refine IteW.mk (fun hq=>?_) (fun hq=>?_)
  ·simp -implicitDefEqProofs (disch:=omega)[wrap64]
   refine RetK.keep (hk _ _ ⟨n',_,rfl,H,⟨fun hh=>absurd hh (by omega),fun ⟨e1,e2⟩=>?_⟩,fun hh=>absurd hh (by omega)⟩)
   have:ok=true:=hok.2 ⟨e1 _ (List.getElem_mem hlx),by omega⟩
   rw[this] at hq
   simp at hq
  ·have hok1:ok=true:=by simpa using hq
   have e1:=hok.1 hok1
   have e2:=hn' hok1
   subst e2
   simp -implicitDefEqProofs (disch:=omega)[wrap64]
   refine hJ _ _ hlx ⟨rfl,?_,by omega,fun j hj hji=>?_⟩
   ·rw[hnt,← Nat.add_assoc];exact H
   ·by_cases hji2:j=i
    ·subst hji2;exact e1.1
    ·exact hall j hj (by omega)
 ·simp -implicitDefEqProofs (disch:=omega)[wrap64]
  rw[List.take_of_length_le (by omega)] at H hle
  refine RetK.keep (hk _ _ ⟨_,_,rfl,H,⟨fun _=>⟨fun y hy=>?_,hle⟩,fun _=>by omega⟩,fun _=>rfl⟩)
  obtain⟨j,hj,rfl⟩:=List.mem_iff_getElem.1 hy
  exact hall j hj (by omega)
theorem c_ContainsFunc_walk {g h:Heap}{Γ:List HP}{a fv:Value}{l:List Exq}{b n m:Nat}(Ra:Rep g a l) {f:FuncId}{c1 c2:List Value}(hf:fnOf fv=some (f,c1,c2)) (H:HS g (bx b [.int .i64 n]::Γ) h) (hn:n≤15)
  (hp:∀(i:Nat) (hi:i<l.length) (u:Value) (n:Nat) (h1:Heap),Rep g u l[i]→HS g (bx b [.int .i64 n]::Γ) h1→n≤15→CallE Tryz.prog f (c1++u::c2) h1 (WalkQ g Γ b n m l[i] true)) :
  CallE Tryz.prog fn_slices_ContainsFunc_S_impl_Expr_impl_Expr [a,fv] h (fun v h'=>∃(n':Nat) (ok:Bool),v=.bool (!ok)∧HS g (bx b [.int .i64 n']::Γ) h'∧(ok=true↔(∀y∈l,y.Shp m)∧n+Exq.nods l≤15)∧(ok=true→n'=n+Exq.nods l)):=by
 refine CallE.gen fun k hk=>EN_slices_ContainsFunc_S_impl_Expr_impl_Expr rfl ?_
 simp -implicitDefEqProofs (disch:=omega)[wrap64]
 refine (c_IndexFunc_walk Ra hf H hn hp).go ?_
 rintro _ h1 ⟨n',j,rfl,H,hj,hn'⟩
 simp -implicitDefEqProofs (disch:=omega)[wrap64]
 refine RetK.keep (hk _ _ ⟨n',decide (j<0),?_,H,by rw[decide_eq_true_iff];exact hj,by rw[decide_eq_true_iff];exact hn'⟩)
 congr 1
 by_cases e:j<0
 ·simp[e]
 ·simp[e];omega
theorem c_walk:∀(x:Exq) {g h:Heap}{Γ:List HP}{v:Value}{b n d:Nat}{dv:Int},dv=d→Rep g v x→HS g (bx b [.int .i64 n]::Γ) h→n≤15→1≤d→d≤7 →
  CallE Tryz.prog fn_impl_Expr_walk [v,.int .i64 dv,.pointer (some ⟨b,0,none⟩)] h (WalkQ g Γ b n (7-d) x false):=by
 refine Exq.ind fun x ih g h Γ v b n d dv hdv R H hn hd1 hd7=>?_
 obtain⟨w,rfl,k1,k2,R1⟩:=Rep_Exq.1 R
 have hnod:=x.nod_eq
 have hkl:=R1.lt
 obtain⟨ln,hln⟩:∃ln:Int,ln=x.kids.length:=⟨_,rfl⟩
 have hlen:=R1.len
 rw[← hln] at hlen
 refine CallE.gen fun k hk=>EN_impl_Expr_walk rfl ?_
 simp -implicitDefEqProofs (disch:=omega)[wrap64]
 refine H.alloc rfl fun b4 h1 H=>?_
 simp -implicitDefEqProofs (disch:=omega)[wrap64]
 refine H.alloc rfl fun b5 h2 H=>?_
 simp only[cells_int,cells_pointer] at H
 simp -implicitDefEqProofs (disch:=first|omega|(simp only[LnZ];omega))[wrap64,H.bxld0,H.sw2.bxld0]
 refine HS.bxst (o:=0) (sz:=1) (u:=.int .i64 ((n:Int)+1)) H.sw2 rfl rfl rfl rfl (by simp) fun h3 H=>?_
 have H:HS g (bx b [.int .i64 ((n+1:Nat):Int)]::bx b5 [.pointer (some ⟨b,0,none⟩)]::bx b4 [.int .i64 dv]::Γ) h3:=H
 -- what is wanted where it fails
 have hno:¬(x.Shp (7-d)∧n+x.nod≤15)→k (.bool false) h3:=fun hh=>hk _ _ ⟨_,false,rfl,H.sw1.drop.sw1.drop,⟨fun e=>by simp at e,fun e=>absurd e hh⟩,fun e=>by simp at e⟩
 -- and where the operands were asked
 have hfin:x.Nd→d≤6→∀{h4:Heap}{n':Nat}{ok:Bool},(ok=true↔(∀y∈x.kids,y.Shp (6-d))∧n+1+Exq.nods x.kids≤15)→(ok=true→n'=n+1+Exq.nods x.kids) →
   HS g (bx b [.int .i64 n']::bx b5 [.pointer (some ⟨b,0,none⟩)]::bx b4 [.int .i64 dv]::Γ) h4→k (.bool ok) h4:=by
  intro hnd hd6 h4 n' ok g1 g2 H4
  refine hk _ _ ⟨n',ok,by simp,H4.sw1.drop.sw1.drop,?_,fun e=>by have:=g2 e;omega⟩
  rw[g1,show 7-d=(6-d)+1 by omega]
  exact⟨fun ⟨h5,h6⟩=>⟨⟨hnd,h5⟩,by omega⟩,fun ⟨h5,h6⟩=>⟨h5.2,by omega⟩⟩
 -- an operand
 have hkid:d≤6→∀(i:Nat) (hi:i<x.kids.length) (u:Value) (n:Nat) (h1:Heap),Rep g u x.kids[i]→HS g (bx b [.int .i64 n]::bx b5 [.pointer (some ⟨b,0,none⟩)]::bx b4 [.int .i64 dv]::Γ) h1→n≤15 →
   CallE Tryz.prog fn_impl_Expr_walk_1 ([]++u::[.pointer (some ⟨b4,0,none⟩),.pointer (some ⟨b5,0,none⟩)]) h1 (WalkQ g (bx b5 [.pointer (some ⟨b,0,none⟩)]::bx b4 [.int .i64 dv]::Γ) b n (6-d) x.kids[i] true):=by
  intro hd6 i hi u n h1 Ru H hn
  refine CallE.gen fun k hk=>EN_impl_Expr_walk_1 rfl ?_
  have Fu:=Ru.aExq
  simp -implicitDefEqProofs (disch:=first|omega|(simp only[LnZ];omega))[wrap64,Fu,H.sw2.bxld0,H.sw1.bxld0]
  refine (ih _ (List.getElem_mem hi) (d:=d+1) (dv:=dv+1) (by omega) Ru H hn (by omega) (by omega)).go ?_
  rintro _ h2 ⟨n',ok,rfl,H,g1,g2⟩
  rw[show 7-(d+1)=6-d by omega] at g1
  simp -implicitDefEqProofs (disch:=omega)[wrap64]
  exact RetK.keep (hk _ _ ⟨n',ok,by simp,H,g1,g2⟩)
 by_cases c1:x.kind=1
 ·revert hno hfin
  intro hno hfin
  by_cases e1:(6:Int)<dv
  ·simp -implicitDefEqProofs (disch:=first|omega|(simp only[LnZ];omega))[wrap64,c1,H.bxld0,H.sw1.bxld0,H.sw2.bxld0,e1]
   exact RetK.keep (hno fun hh=>by have:=hh.1;rw[show 7-d=0 by omega] at this;exact this)
  by_cases e2:(15:Int)<(n:Int)+1
  ·simp -implicitDefEqProofs (disch:=first|omega|(simp only[LnZ];omega))[wrap64,c1,H.bxld0,H.sw1.bxld0,H.sw2.bxld0,e1,e2]
   exact RetK.keep (hno fun hh=>by have:=hh.2;omega)
  simp -implicitDefEqProofs (disch:=first|omega|(simp only[LnZ];omega))[wrap64,c1,H.bxld0,H.sw1.bxld0,H.sw2.bxld0,e1,e2]
  refine c_in.go ?_
  rintro _ _ ⟨rfl,rfl⟩
  have e3:1≤x.kind∧x.kind≤9:=by omega
  have e6:=e3
  simp -implicitDefEqProofs (disch:=first|omega|(simp only[LnZ];omega))[wrap64,c1,e3]
  refine c_in.go ?_
  rintro _ _ ⟨rfl,rfl⟩
  by_cases e4:0≤x.val∧x.val≤3
  case neg=>
   simp -implicitDefEqProofs (disch:=first|omega|(simp only[LnZ];omega))[wrap64,c1,e4]
   exact RetK.keep (hno fun hh=>e4 ⟨hh.1.nd.lo,by have:=hh.1.nd.hi;simpa[Exq.most,c1] using this⟩)
  simp -implicitDefEqProofs (disch:=first|omega|(simp only[LnZ];omega))[wrap64,c1,e4,hlen]
  by_cases e5:ln=0
  case neg=>
   simp -implicitDefEqProofs (disch:=first|omega|(simp only[LnZ];omega))[wrap64,c1,e5,hlen]
   exact RetK.keep (hno fun hh=>e5 (by have:=hh.1.nd.ar;rw[← hln] at this;simpa[Exq.arity,c1,e3,e6] using this))
  simp -implicitDefEqProofs (disch:=first|omega|(simp only[LnZ];omega))[wrap64,c1,e5,hlen]
  refine (c_ContainsFunc_walk (m:=6-d) R1 (c1:=[]) (c2:=[.pointer (some ⟨b4,0,none⟩),.pointer (some ⟨b5,0,none⟩)]) rfl H (by omega) (hkid (by omega))).go ?_
  rintro _ h4 ⟨n',ok,rfl,H4,g1,g2⟩
  simp -implicitDefEqProofs (disch:=omega)[wrap64]
  exact RetK.keep (hfin ⟨by rw[← hln];simp only[Exq.arity,c1];simpa[e3,e6] using e5,e4.1,by simp only[Exq.most,c1];simpa using e4.2⟩ (by omega) g1 g2 H4)
 by_cases c2:x.kind=2
 ·revert hno hfin
  intro hno hfin
  by_cases e1:(6:Int)<dv
  ·simp -implicitDefEqProofs (disch:=first|omega|(simp only[LnZ];omega))[wrap64,c1,c2,H.bxld0,H.sw1.bxld0,H.sw2.bxld0,e1]
   exact RetK.keep (hno fun hh=>by have:=hh.1;rw[show 7-d=0 by omega] at this;exact this)
  by_cases e2:(15:Int)<(n:Int)+1
  ·simp -implicitDefEqProofs (disch:=first|omega|(simp only[LnZ];omega))[wrap64,c1,c2,H.bxld0,H.sw1.bxld0,H.sw2.bxld0,e1,e2]
   exact RetK.keep (hno fun hh=>by have:=hh.2;omega)
  simp -implicitDefEqProofs (disch:=first|omega|(simp only[LnZ];omega))[wrap64,c1,c2,H.bxld0,H.sw1.bxld0,H.sw2.bxld0,e1,e2]
  refine c_in.go ?_
  rintro _ _ ⟨rfl,rfl⟩
  have e3:1≤x.kind∧x.kind≤9:=by omega
  have e6:=e3
  simp -implicitDefEqProofs (disch:=first|omega|(simp only[LnZ];omega))[wrap64,c1,c2,e3]
  refine c_in.go ?_
  rintro _ _ ⟨rfl,rfl⟩
  by_cases e4:0≤x.val∧x.val≤2
  case neg=>
   simp -implicitDefEqProofs (disch:=first|omega|(simp only[LnZ];omega))[wrap64,c1,c2,e4]
   exact RetK.keep (hno fun hh=>e4 ⟨hh.1.nd.lo,by have:=hh.1.nd.hi;simpa[Exq.most,c1,c2] using this⟩)
  simp -implicitDefEqProofs (disch:=first|omega|(simp only[LnZ];omega))[wrap64,c1,c2,e4,hlen]
  by_cases e5:ln=0
  case neg=>
   simp -implicitDefEqProofs (disch:=first|omega|(simp only[LnZ];omega))[wrap64,c1,c2,e5,hlen]
   exact RetK.keep (hno fun hh=>e5 (by have:=hh.1.nd.ar;rw[← hln] at this;simpa[Exq.arity,c1,c2,e3,e6] using this))
  simp -implicitDefEqProofs (disch:=first|omega|(simp only[LnZ];omega))[wrap64,c1,c2,e5,hlen]
  refine (c_ContainsFunc_walk (m:=6-d) R1 (c1:=[]) (c2:=[.pointer (some ⟨b4,0,none⟩),.pointer (some ⟨b5,0,none⟩)]) rfl H (by omega) (hkid (by omega))).go ?_
  rintro _ h4 ⟨n',ok,rfl,H4,g1,g2⟩
  simp -implicitDefEqProofs (disch:=omega)[wrap64]
  exact RetK.keep (hfin ⟨by rw[← hln];simp only[Exq.arity,c1,c2];simpa[e3,e6] using e5,e4.1,by simp only[Exq.most,c1,c2];simpa using e4.2⟩ (by omega) g1 g2 H4)
 by_cases c3:x.kind=3
 ·revert hno hfin
  intro hno hfin
  by_cases e1:(6:Int)<dv
  ·simp -implicitDefEqProofs (disch:=first|omega|(simp only[LnZ];omega))[wrap64,c1,c2,c3,H.bxld0,H.sw1.bxld0,H.sw2.bxld0,e1]
   exact RetK.keep (hno fun hh=>by have:=hh.1;rw[show 7-d=0 by omega] at this;exact this)
  by_cases e2:(15:Int)<(n:Int)+1
  ·simp -implicitDefEqProofs (disch:=first|omega|(simp only[LnZ];omega))[wrap64,c1,c2,c3,H.bxld0,H.sw1.bxld0,H.sw2.bxld0,e1,e2]
   exact RetK.keep (hno fun hh=>by have:=hh.2;omega)
  simp -implicitDefEqProofs (disch:=first|omega|(simp only[LnZ];omega))[wrap64,c1,c2,c3,H.bxld0,H.sw1.bxld0,H.sw2.bxld0,e1,e2]
  refine c_in.go ?_
  rintro _ _ ⟨rfl,rfl⟩
  have e3:1≤x.kind∧x.kind≤9:=by omega
  have e6:=e3
  simp -implicitDefEqProofs (disch:=first|omega|(simp only[LnZ];omega))[wrap64,c1,c2,c3,e3]
  refine c_in.go ?_
  rintro _ _ ⟨rfl,rfl⟩
  by_cases e4:0≤x.val∧x.val≤0
  case neg=>
   simp -implicitDefEqProofs (disch:=first|omega|(simp only[LnZ];omega))[wrap64,c1,c2,c3,e4]
   exact RetK.keep (hno fun hh=>e4 ⟨hh.1.nd.lo,by have:=hh.1.nd.hi;simpa[Exq.most,c1,c2,c3] using this⟩)
  simp -implicitDefEqProofs (disch:=first|omega|(simp only[LnZ];omega))[wrap64,c1,c2,c3,e4,hlen]
  by_cases e5:ln=1
  case neg=>
   simp -implicitDefEqProofs (disch:=first|omega|(simp only[LnZ];omega))[wrap64,c1,c2,c3,e5,hlen]
   exact RetK.keep (hno fun hh=>e5 (by have:=hh.1.nd.ar;rw[← hln] at this;simpa[Exq.arity,c1,c2,c3,e3,e6] using this))
  simp -implicitDefEqProofs (disch:=first|omega|(simp only[LnZ];omega))[wrap64,c1,c2,c3,e5,hlen]
  refine (c_ContainsFunc_walk (m:=6-d) R1 (c1:=[]) (c2:=[.pointer (some ⟨b4,0,none⟩),.pointer (some ⟨b5,0,none⟩)]) rfl H (by omega) (hkid (by omega))).go ?_
  rintro _ h4 ⟨n',ok,rfl,H4,g1,g2⟩
  simp -implicitDefEqProofs (disch:=omega)[wrap64]
  exact RetK.keep (hfin ⟨by rw[← hln];simp only[Exq.arity,c1,c2,c3];simpa[e3,e6] using e5,e4.1,by simp only[Exq.most,c1,c2,c3];simpa using e4.2⟩ (by omega) g1 g2 H4)
 by_cases e1:(6:Int)<dv
 ·simp -implicitDefEqProofs (disch:=first|omega|(simp only[LnZ];omega))[wrap64,c1,c2,c3,H.bxld0,H.sw1.bxld0,H.sw2.bxld0,e1]
  exact RetK.keep (hno fun hh=>by have:=hh.1;rw[show 7-d=0 by omega] at this;exact this)
 by_cases e2:(15:Int)<(n:Int)+1
 ·simp -implicitDefEqProofs (disch:=first|omega|(simp only[LnZ];omega))[wrap64,c1,c2,c3,H.bxld0,H.sw1.bxld0,H.sw2.bxld0,e1,e2]
  exact RetK.keep (hno fun hh=>by have:=hh.2;omega)
 simp -implicitDefEqProofs (disch:=first|omega|(simp only[LnZ];omega))[wrap64,c1,c2,c3,H.bxld0,H.sw1.bxld0,H.sw2.bxld0,e1,e2]
 refine c_in.go ?_
 rintro _ _ ⟨rfl,rfl⟩
 by_cases e3:1≤x.kind∧x.kind≤9
 case neg=>
  simp -implicitDefEqProofs (disch:=first|omega|(simp only[LnZ];omega))[wrap64,c1,c2,c3,e3]
  exact RetK.keep (hno fun hh=>e3 hh.1.nd.kind)
 have e6:4≤x.kind:=by omega
 simp -implicitDefEqProofs (disch:=first|omega|(simp only[LnZ];omega))[wrap64,c1,c2,c3,e3]
 refine c_in.go ?_
 rintro _ _ ⟨rfl,rfl⟩
 by_cases e4:0≤x.val∧x.val≤0
 case neg=>
  simp -implicitDefEqProofs (disch:=first|omega|(simp only[LnZ];omega))[wrap64,c1,c2,c3,e4]
  exact RetK.keep (hno fun hh=>e4 ⟨hh.1.nd.lo,by have:=hh.1.nd.hi;simpa[Exq.most,c1,c2,c3] using this⟩)
 simp -implicitDefEqProofs (disch:=first|omega|(simp only[LnZ];omega))[wrap64,c1,c2,c3,e4,hlen]
 by_cases e5:ln=2
 case neg=>
  simp -implicitDefEqProofs (disch:=first|omega|(simp only[LnZ];omega))[wrap64,c1,c2,c3,e5,hlen]
  exact RetK.keep (hno fun hh=>e5 (by have:=hh.1.nd.ar;rw[← hln] at this;simpa[Exq.arity,c1,c2,c3,e3,e6] using this))
 simp -implicitDefEqProofs (disch:=first|omega|(simp only[LnZ];omega))[wrap64,c1,c2,c3,e5,hlen]
 refine (c_ContainsFunc_walk (m:=6-d) R1 (c1:=[]) (c2:=[.pointer (some ⟨b4,0,none⟩),.pointer (some ⟨b5,0,none⟩)]) rfl H (by omega) (hkid (by omega))).go ?_
 rintro _ h4 ⟨n',ok,rfl,H4,g1,g2⟩
 simp -implicitDefEqProofs (disch:=omega)[wrap64]
 exact RetK.keep (hfin ⟨by rw[← hln];simp only[Exq.arity,c1,c2,c3];simpa[e3,e6] using e5,e4.1,by simp only[Exq.most,c1,c2,c3];simpa using e4.2⟩ (by omega) g1 g2 H4)
theorem c_IndexFunc_impl_Edge {h:Heap}{a fv:Value}{x:List (Ed)}(Ra:Rep h a x) {f:FuncId}{c1 c2:List Value}(hf:fnOf fv=some (f,c1,c2)) (p:(Ed)→Bool)
  (hp:∀h1,h.le h1→∀(i:Nat) (hi:i<x.length) (u:Value),Rep h1 u x[i]→CallE Tryz.prog f (c1++u::c2) h1 (fun v h'=>h1.le h'∧v=.bool (p x[i]))) :
  CallE Tryz.prog fn_slices_IndexFunc_S_impl_Edge_impl_Edge [a,fv] h (fun v h'=>h.le h'∧v=.int .i64 (match x.findIdx? p with | some i=>(i:Int) | none=>-1)):=by
 refine CallE.gen fun k hk=>EN_slices_IndexFunc_S_impl_Edge_impl_Edge rfl ?_
 have hL:=Ra.lt
 simp -implicitDefEqProofs (disch:=first|omega|(simp only[LnZ];omega))[wrap64,Ra.len]
 refine wp_count x.length (fun i e h'=>e=[some a,some fv,none,none,some (.int .i64 x.length),some (.int .i64 i)]∧h.le h'∧∀(j:Nat) (hj:j<x.length),j<i→p x[j]=false) ⟨rfl,Heap.le.refl h,fun j _ hj=>absurd hj (Nat.not_lt_zero j)⟩ ?_
 rintro J i _ h1 hJ hi ⟨rfl,hl,hn⟩
 simp -implicitDefEqProofs (disch:=omega)[wrap64]
 refine IteW.mk (fun hlt=>?_) (fun hge=>?_)
 ·have hlx:i<x.length:=by omega
  obtain⟨u,hu,Ru⟩:=(Ra.le hl).ld hlx
  change hload _ (some (elp 10 a i)) (some 10)=some u at hu
  simp -implicitDefEqProofs (disch:=first|omega|(simp only[LnZ];omega))[wrap64,(Ra.le hl).X (n:=10) rfl,hu,hf]
  refine (hp h1 hl i hlx u Ru).go ?_
  rintro _ h2 ⟨hl2,rfl⟩
  simp -implicitDefEqProofs (disch:=omega)[wrap64]
  refine IteW.mk (fun hq=>?_) (fun hq=>?_)
  ·simp -implicitDefEqProofs (disch:=omega)[wrap64]
   refine RetK.keep (hk _ _ ⟨hl.trans hl2,?_⟩)
   have h3:x.findIdx? p=some i:=by
    rw[List.findIdx?_eq_some_iff_getElem]
    exact⟨hlx,hq,fun j hj=>by rw[hn j (by omega) hj];simp⟩
   rw[h3]
  ·simp -implicitDefEqProofs (disch:=omega)[wrap64]
   refine hJ _ _ hlx ⟨rfl,hl.trans hl2,fun j hj hji=>?_⟩
   by_cases hji2:j=i
   ·subst hji2;simpa using hq
   ·exact hn j hj (by omega)
 ·simp -implicitDefEqProofs (disch:=omega)[wrap64]
  refine RetK.keep (hk _ _ ⟨hl,?_⟩)
  have h3:x.findIdx? p=none:=by
   rw[List.findIdx?_eq_none_iff]
   intro y hy
   obtain⟨j,hj,rfl⟩:=List.mem_iff_getElem.1 hy
   exact hn j hj (by omega)
  rw[h3]
theorem c_ContainsFunc_impl_Edge {h:Heap}{a fv:Value}{x:List (Ed)}(Ra:Rep h a x) {f:FuncId}{c1 c2:List Value}(hf:fnOf fv=some (f,c1,c2)) (p:(Ed)→Bool)
  (hp:∀h1,h.le h1→∀(i:Nat) (hi:i<x.length) (u:Value),Rep h1 u x[i]→CallE Tryz.prog f (c1++u::c2) h1 (fun v h'=>h1.le h'∧v=.bool (p x[i]))) :
  CallE Tryz.prog fn_slices_ContainsFunc_S_impl_Edge_impl_Edge [a,fv] h (fun v h'=>h.le h'∧v=.bool (x.any p)):=by
 refine CallE.gen fun k hk=>EN_slices_ContainsFunc_S_impl_Edge_impl_Edge rfl ?_
 simp -implicitDefEqProofs (disch:=omega)[wrap64]
 refine (c_IndexFunc_impl_Edge Ra hf p hp).go ?_
 rintro _ h1 ⟨hl,rfl⟩
 simp -implicitDefEqProofs (disch:=omega)[wrap64]
 refine RetK.keep (hk _ _ ⟨hl,?_⟩)
 congr 1
 rw[← List.findIdx?_isSome]
 cases x.findIdx? p<;>simp
theorem c_ExprNodes {h:Heap}{v:Value}{x:Exq}(R:Rep h v x):CallE Tryz.prog fn_impl_ExprNodes [v] h (fun u h'=>h.le h'∧u=.int .i64 (if x.Ok then (x.nod:Int) else 0)):=by
 have F:=R.aExq
 refine CallE.gen fun k hk=>EN_impl_ExprNodes rfl ?_
 simp -implicitDefEqProofs (disch:=omega)[wrap64]
 refine HS.init.alloc rfl fun b h1 H=>?_
 simp only[cells_int] at H
 simp -implicitDefEqProofs (disch:=omega)[wrap64]
 refine HS.bxst (o:=0) (sz:=1) (u:=.int .i64 0) H rfl rfl rfl rfl (by simp) fun h2 H=>?_
 have H:HS h [bx b [.int .i64 ((0:Nat):Int)]] h2:=H
 simp -implicitDefEqProofs (disch:=first|omega|(simp only[LnZ];omega))[wrap64,F]
 refine (c_walk x (d:=1) rfl R H (by omega) (by omega) (by omega)).go ?_
 rintro _ h3 ⟨n',ok,rfl,H,g1,g2⟩
 have hok:ok=true↔x.Ok:=by rw[g1];simp[Exq.Ok]
 cases ok with
 | true=>
  have e:=g2 rfl
  have ho:=hok.1 rfl
  simp -implicitDefEqProofs (disch:=first|omega|(simp only[LnZ];omega))[wrap64,H.bxld0]
  refine RetK.keep (hk _ _ ⟨H.base,?_⟩)
  rw[if_pos ho,e];simp
 | false=>
  simp -implicitDefEqProofs (disch:=omega)[wrap64]
  refine RetK.keep (hk _ _ ⟨H.base,?_⟩)
  rw[if_neg (fun ho=>by have:=hok.2 ho;simp at this)]
theorem Exq.nod_pos (x:Exq):0<x.nod:=by rw[Exq.nod_eq];omega
theorem c_ExprValid {h:Heap}{v:Value}{x:Exq}(R:Rep h v x):CallE Tryz.prog fn_impl_ExprValid [v] h (fun u h'=>h.le h'∧u=.bool (decide x.Ok)):=by
 have F:=R.aExq
 have hp:=x.nod_pos
 refine CallE.gen fun k hk=>EN_impl_ExprValid rfl ?_
 simp -implicitDefEqProofs (disch:=first|omega|(simp only[LnZ];omega))[wrap64,F]
 refine (c_ExprNodes R).go ?_
 rintro _ h1 ⟨hl,rfl⟩
 simp -implicitDefEqProofs (disch:=omega)[wrap64]
 refine RetK.keep (hk _ _ ⟨hl,?_⟩)
 congr 1
 by_cases e:x.Ok
 ·simp[e];omega
 ·simp[e]
theorem c_EqualFunc_Expr {h:Heap}{a b fv:Value}{x y:List Exq}(Ra:Rep h a x) (Rb:Rep h b y) {f:FuncId}(hf:fnOf fv=some (f,[],[]))
  (hp:∀z∈x,∀{h:Heap}{a b:Value}{w:Exq},Rep h a z→Rep h b w→CallE Tryz.prog f [a,b] h (fun u h'=>h'=h∧u=.bool (decide (z=w)))) :
  CallE Tryz.prog fn_slices_EqualFunc_S_impl_Expr_S_impl_Expr_impl_Expr_impl_Expr [a,b,fv] h (fun u h'=>h'=h∧u=.bool (decide (x=y))):=by
 refine CallE.gen fun k hk=>EN_slices_EqualFunc_S_impl_Expr_S_impl_Expr_impl_Expr_impl_Expr rfl ?_
 have hL:=Ra.lt
 simp -implicitDefEqProofs (disch:=first|omega|(simp only[LnZ];omega))[wrap64,Ra.len,Rb.len]
 refine IteW.mkr (fun hne=>?_) (fun heq=>?_)
 ·simp -implicitDefEqProofs (disch:=omega)[wrap64]
  exact RetK.keep (hk _ _ ⟨rfl,by simp;rintro rfl;exact hne rfl⟩)
 simp -implicitDefEqProofs (disch:=first|omega|(simp only[LnZ];omega))[wrap64,Ra.len]
 refine wp_count x.length (fun i e h'=>h'=h∧e=[none,some b,some fv,none,none,none,none,some a,some (.int .i64 x.length),some (.int .i64 i)]∧x.take i=y.take i) ⟨rfl,by simp[heq],rfl⟩ ?_
 rintro J i _ _ hJ hi ⟨rfl,rfl,hxy⟩
 simp -implicitDefEqProofs (disch:=omega)[wrap64]
 refine IteW.mk (fun hlt=>?_) (fun hge=>?_)
 ·have hly:i<y.length:=by omega
  have hlx:i<x.length:=by omega
  obtain⟨u,hu,Ru⟩:=Ra.ld hlx
  obtain⟨w,hw,Rw⟩:=Rb.ld hly
  change hload _ (some (elp 3 a i)) (some 3)=some u at hu
  change hload _ (some (elp 3 b i)) (some 3)=some w at hw
  simp -implicitDefEqProofs (disch:=first|omega|(simp only[LnZ];omega))[wrap64,Ra.X (n:=3) rfl,Rb.X (n:=3) rfl,hu,hw,Ru.aExq,Rw.aExq,hf]
  refine (hp _ (List.getElem_mem hlx) Ru Rw).go ?_
  rintro _ _ ⟨rfl,rfl⟩
  simp -implicitDefEqProofs (disch:=omega)[wrap64]
  refine IteW.mkr (fun hne=>?_) (fun heq=>?_)
  ·simp -implicitDefEqProofs (disch:=omega)[wrap64]
   exact RetK.keep (hk _ _ ⟨rfl,by simp;rintro rfl;exact hne rfl⟩)
  simp -implicitDefEqProofs (disch:=omega)[wrap64]
  exact hJ _ _ hlx ⟨rfl,rfl,take_step hxy hlx hly heq⟩
 ·simp -implicitDefEqProofs (disch:=omega)[wrap64]
  refine RetK.keep (hk _ _ ⟨rfl,?_⟩)
  simp
  rw[List.take_of_length_le (by omega),List.take_of_length_le (by omega)] at hxy
  exact hxy
theorem c_ExprSame':∀(x:Exq) {h:Heap}{a b:Value}{y:Exq},Rep h a x→Rep h b y→CallE Tryz.prog fn_impl_ExprSame [a,b] h (fun u h'=>h'=h∧u=.bool (decide (x=y))):=by
 refine Exq.ind fun x ih h a b y Ra Rb=>?_
 obtain⟨w,rfl,k1,k2,R1⟩:=Rep_Exq.1 Ra
 obtain⟨w2,rfl,k3,k4,R2⟩:=Rep_Exq.1 Rb
 refine CallE.gen fun k hk=>EN_impl_ExprSame rfl ?_
 by_cases h1:x.kind=y.kind
 case neg=>
  simp -implicitDefEqProofs (disch:=first|omega|(simp only[LnZ];omega))[wrap64,h1]
  exact RetK.keep (hk _ _ ⟨rfl,by simp[Exq.ext_iff',h1]⟩)
 by_cases h2:x.val=y.val
 case neg=>
  simp -implicitDefEqProofs (disch:=first|omega|(simp only[LnZ];omega))[wrap64,h1,h2]
  exact RetK.keep (hk _ _ ⟨rfl,by simp[Exq.ext_iff',h2]⟩)
 simp -implicitDefEqProofs (disch:=first|omega|(simp only[LnZ];omega))[wrap64,h1,h2]
 refine (c_EqualFunc_Expr R1 R2 (f:=fn_impl_ExprSame) rfl ih).go ?_
 rintro _ _ ⟨rfl,rfl⟩
 simp -implicitDefEqProofs (disch:=omega)[wrap64]
 exact RetK.keep (hk _ _ ⟨rfl,by simp[Exq.ext_iff',h1,h2]⟩)
theorem c_ExprSame {x:Exq}{h:Heap}{a b:Value}{y:Exq}(Ra:Rep h a x) (Rb:Rep h b y):CallE Tryz.prog fn_impl_ExprSame [a,b] h (fun u h'=>h'=h∧u=.bool (decide (x=y))):=c_ExprSame' x Ra Rb
theorem rep_zero {h:Heap}:Rep h (.agg #[.int .i64 0,.int .i64 0,.slice none 0 0]) Exq.zero:=Rep_Exq.2 ⟨_,rfl,i64_0,i64_0,(Own_nils.rep.le fun _ _ h=>by simp[Heap.nil] at h)⟩
theorem c_EdgeValid {h:Heap}{v:Value}{e:Ed}(R:Rep h v e) {n:Int}(hn:I64 n):CallE Tryz.prog fn_impl_EdgeValid [v,.int .i64 n] h (fun u h'=>h.le h'∧u=.bool (decide (e.Ok n))):=by
 obtain⟨w1,w2,rfl,ok,R1,R2⟩:=Rep_Ed.1 R
 have G1:Rep h (.agg #[.int .i64 e.guard.kind,.int .i64 e.guard.val,w1]) e.guard:=Rep_Exq.2 ⟨w1,rfl,ok.gk,ok.gv,R1⟩
 have G2:Rep h (.agg #[.int .i64 e.value.kind,.int .i64 e.value.val,w2]) e.value:=Rep_Exq.2 ⟨w2,rfl,ok.vk,ok.vv,R2⟩
 refine CallE.gen fun k hk=>EN_impl_EdgeValid rfl ?_
 have hno:∀{h'},h.le h'→¬e.Ok n→k (.bool false) h':=fun hl hh=>hk _ _ ⟨hl,by rw[decide_eq_false hh]⟩
 have hyes:∀{h'},h.le h'→e.Ok n→k (.bool true) h':=fun hl hh=>hk _ _ ⟨hl,by rw[decide_eq_true hh]⟩
 simp -implicitDefEqProofs (disch:=omega)[wrap64]
 refine c_in.go ?_
 rintro _ _ ⟨rfl,rfl⟩
 by_cases q1:1≤n∧n≤4
 case neg=>simp -implicitDefEqProofs (disch:=first|omega|(simp only[LnZ];omega))[wrap64,q1];exact RetK.keep (hno (Heap.le.refl _) fun hh=>q1 ⟨hh.n1,hh.n4⟩)
 simp -implicitDefEqProofs (disch:=first|omega|(simp only[LnZ];omega))[wrap64,q1,Ed.cs]
 refine c_in.go ?_
 rintro _ _ ⟨rfl,rfl⟩
 by_cases q2:0≤e.frm∧e.frm≤n-1
 case neg=>simp -implicitDefEqProofs (disch:=first|omega|(simp only[LnZ];omega))[wrap64,q2];exact RetK.keep (hno (Heap.le.refl _) fun hh=>q2 ⟨hh.f0,by have:=hh.f1;omega⟩)
 simp -implicitDefEqProofs (disch:=first|omega|(simp only[LnZ];omega))[wrap64,q2,Ed.cs]
 refine c_in.go ?_
 rintro _ _ ⟨rfl,rfl⟩
 by_cases q3:0≤e.to∧e.to≤n-1
 case neg=>simp -implicitDefEqProofs (disch:=first|omega|(simp only[LnZ];omega))[wrap64,q3];exact RetK.keep (hno (Heap.le.refl _) fun hh=>q3 ⟨hh.t0,by have:=hh.t1;omega⟩)
 simp -implicitDefEqProofs (disch:=first|omega|(simp only[LnZ];omega))[wrap64,q3,Ed.cs]
 refine (c_ExprValid G1).go ?_
 rintro _ h1 ⟨l1,rfl⟩
 by_cases q4:e.guard.Ok
 case neg=>simp -implicitDefEqProofs (disch:=first|omega|(simp only[LnZ];omega))[wrap64,q4];exact RetK.keep (hno l1 fun hh=>q4 hh.gd)
 simp -implicitDefEqProofs (disch:=first|omega|(simp only[LnZ];omega))[wrap64,q4,Ed.cs]
 refine c_in.go ?_
 rintro _ _ ⟨rfl,rfl⟩
 by_cases q5:-1≤e.var∧e.var≤2
 case neg=>simp -implicitDefEqProofs (disch:=first|omega|(simp only[LnZ];omega))[wrap64,q5];exact RetK.keep (hno l1 fun hh=>q5 ⟨hh.v0,hh.v1⟩)
 by_cases q6:0≤e.var
 ·simp -implicitDefEqProofs (disch:=first|omega|(simp only[LnZ];omega))[wrap64,q5,q6,Ed.cs]
  refine (c_ExprValid (G2.le l1)).go ?_
  rintro _ h2 ⟨l2,rfl⟩
  by_cases q7:e.value.Ok
  case neg=>simp -implicitDefEqProofs (disch:=first|omega|(simp only[LnZ];omega))[wrap64,q7,q6,Ed.cs,show ¬e.var<0 by omega];exact RetK.keep (hno (l1.trans l2) fun hh=>hh.vl.elim (fun h3=>q7 h3.2) (fun h3=>absurd h3.1 (by omega)))
  simp -implicitDefEqProofs (disch:=first|omega|(simp only[LnZ];omega))[wrap64,q7,Ed.cs]
  refine c_in.go ?_
  rintro _ _ ⟨rfl,rfl⟩
  by_cases q8:-2≤e.sync∧e.sync≤2
  case neg=>simp -implicitDefEqProofs (disch:=first|omega|(simp only[LnZ];omega))[wrap64,q8];exact RetK.keep (hno (l1.trans l2) fun hh=>q8 ⟨hh.s0,hh.s1⟩)
  simp -implicitDefEqProofs (disch:=first|omega|(simp only[LnZ];omega))[wrap64,q8]
  exact RetK.keep (hyes (l1.trans l2) ⟨q1.1,q1.2,q2.1,by omega,q3.1,by omega,q4,q5.1,q5.2,.inl ⟨q6,q7⟩,q8.1,q8.2⟩)
 ·simp -implicitDefEqProofs (disch:=first|omega|(simp only[LnZ];omega))[wrap64,q5,q6,Ed.cs,show e.var<0 by omega]
  refine (c_ExprSame (G2.le l1) rep_zero).go ?_
  rintro _ _ ⟨rfl,rfl⟩
  by_cases q7:e.value=Exq.zero
  case neg=>simp -implicitDefEqProofs (disch:=first|omega|(simp only[LnZ];omega))[wrap64,q7];exact RetK.keep (hno l1 fun hh=>hh.vl.elim (fun h3=>q6 h3.1) (fun h3=>q7 h3.2))
  simp -implicitDefEqProofs (disch:=first|omega|(simp only[LnZ];omega))[wrap64,q7,Ed.cs]
  refine c_in.go ?_
  rintro _ _ ⟨rfl,rfl⟩
  by_cases q8:-2≤e.sync∧e.sync≤2
  case neg=>simp -implicitDefEqProofs (disch:=first|omega|(simp only[LnZ];omega))[wrap64,q8];exact RetK.keep (hno l1 fun hh=>q8 ⟨hh.s0,hh.s1⟩)
  simp -implicitDefEqProofs (disch:=first|omega|(simp only[LnZ];omega))[wrap64,q8]
  exact RetK.keep (hyes l1 ⟨q1.1,q1.2,q2.1,by omega,q3.1,by omega,q4,q5.1,q5.2,.inr ⟨by omega,q7⟩,q8.1,q8.2⟩)
theorem c_valsOk_1 {h:Heap}{n:Int}:CallE Tryz.prog fn_impl_valsOk_1 [.int .i64 n] h (fun u h'=>h'=h∧u=.bool (!decide (0≤n∧n≤3))):=by
 refine CallE.gen fun k hk=>EN_impl_valsOk_1 rfl ?_
 simp -implicitDefEqProofs (disch:=omega)[wrap64]
 refine c_in.go ?_
 rintro _ _ ⟨rfl,rfl⟩
 simp -implicitDefEqProofs (disch:=omega)[wrap64]
 exact RetK.keep (hk _ _ ⟨rfl,by simp⟩)
theorem c_valsOk {h:Heap}{w:Value}{W:List Int}(Rw:Rep h w W):CallE Tryz.prog fn_impl_valsOk [w] h (fun u h'=>h.le h'∧u=.bool (decide (VOk W))):=by
 have hL:=Rw.lt
 refine CallE.gen fun k hk=>EN_impl_valsOk rfl ?_
 by_cases h1:(W.length:Int)=3
 case neg=>
  simp -implicitDefEqProofs (disch:=first|omega|(simp only[LnZ];omega))[wrap64,Rw.len,h1]
  exact RetK.keep (hk _ _ ⟨Heap.le.refl _,by rw[decide_eq_false (fun hh:VOk W=>h1 (by rw[hh.len];rfl))]⟩)
 simp -implicitDefEqProofs (disch:=first|omega|(simp only[LnZ];omega))[wrap64,Rw.len,h1]
 refine (c_ContainsFunc_int Rw (c1:=[]) (c2:=[]) (f:=fn_impl_valsOk_1) rfl (fun n=>!decide (0≤n∧n≤3)) ?_).go ?_
 ·intro h3 hl j hj u Ru
  obtain⟨rfl,_⟩:=Rep_int.1 Ru
  exact (c_valsOk_1 (n:=W[j])).to fun _ _ ⟨h4,h5⟩=>⟨h4▸Heap.le.refl _,h5⟩
 ·rintro _ h3 ⟨hl,rfl⟩
  simp -implicitDefEqProofs (disch:=omega)[wrap64]
  refine RetK.keep (hk _ _ ⟨hl,?_⟩)
  congr 1
  rw[Bool.eq_iff_iff]
  have:W.length=3:=by omega
  simp[VOk,this]
theorem c_SystemValid_1 {h:Heap}{v:Value}{e:Ed}{b:Nat}{n:Int}(R:Rep h v e) (hn:I64 n) (hb:hload h (some (.pointer (some ⟨b,0,none⟩))) none=some (.int .i64 n)) :
  CallE Tryz.prog fn_impl_SystemValid_1 [v,.pointer (some ⟨b,0,none⟩)] h (fun u h'=>h.le h'∧u=.bool (!decide (e.Ok n))):=by
 have F:=R.aEd
 refine CallE.gen fun k hk=>EN_impl_SystemValid_1 rfl ?_
 simp -implicitDefEqProofs (disch:=first|omega|(simp only[LnZ];omega))[wrap64,F,hb]
 refine (c_EdgeValid R hn).go ?_
 rintro _ h1 ⟨l1,rfl⟩
 simp -implicitDefEqProofs (disch:=omega)[wrap64]
 exact RetK.keep (hk _ _ ⟨l1,rfl⟩)
theorem c_SystemValid {h:Heap}{v:Value}{s:Sy}(R:Rep h v s):CallE Tryz.prog fn_impl_SystemValid [v] h (fun u h'=>h.le h'∧u=.bool (decide s.Ok)):=by
 obtain⟨v1,v2,rfl,R1,R2⟩:=Rep_Sy.1 R
 have hL:=R2.lt
 refine CallE.gen fun k hk=>EN_impl_SystemValid rfl ?_
 have hno:∀{h'},h.le h'→¬s.Ok→k (.bool false) h':=fun hl hh=>hk _ _ ⟨hl,by rw[decide_eq_false hh]⟩
 simp -implicitDefEqProofs (disch:=omega)[wrap64]
 refine (c_valsOk R1).go ?_
 rintro _ h1 ⟨l1,rfl⟩
 by_cases q1:VOk s.init
 case neg=>simp -implicitDefEqProofs (disch:=first|omega|(simp only[LnZ];omega))[wrap64,q1];exact RetK.keep (hno l1 fun hh=>q1 hh.vs)
 simp -implicitDefEqProofs (disch:=first|omega|(simp only[LnZ];omega))[wrap64,q1,R2.len]
 refine c_in.go ?_
 rintro _ _ ⟨rfl,rfl⟩
 by_cases q2:(1:Int)≤s.procs.length∧(s.procs.length:Int)≤3
 case neg=>simp -implicitDefEqProofs (disch:=first|omega|(simp only[LnZ];omega))[wrap64,q2];exact RetK.keep (hno l1 fun hh=>q2 ⟨by have:=hh.p1;omega,by have:=hh.p3;omega⟩)
 simp -implicitDefEqProofs (disch:=first|omega|(simp only[LnZ];omega))[wrap64,q2,R2.len]
 refine wp_count s.procs.length (fun i e h'=>h.le h'∧e=[none,none,none,none,some v2,some (.int .i64 s.procs.length),some (.int .i64 i)]∧∀p∈s.procs.take i,p.Ok) ⟨l1,by simp,by simp⟩ ?_
 rintro J i _ h2 hJ hi ⟨l2,rfl,hall⟩
 simp -implicitDefEqProofs (disch:=omega)[wrap64]
 refine IteW.mk (fun hlt=>?_) (fun hge=>?_)
 ·have hlx:i<s.procs.length:=by omega
  obtain⟨u,hu,Ru⟩:=(R2.le l2).ld hlx
  change hload _ (some (elp 2 v2 i)) (some 2)=some u at hu
  obtain⟨w,rfl,k1,R3⟩:=Rep_Pr.1 Ru
  have hw1:=R3.cells
  have hw2:=R3.one
  have hel:=R3.lt
  simp -implicitDefEqProofs (disch:=first|omega|(simp only[LnZ];omega))[wrap64,R2.X (n:=2) rfl,hu]
  refine HS.init.alloc rfl fun b h3 H=>?_
  simp -implicitDefEqProofs (disch:=omega)[wrap64]
  refine HS.bxst (o:=0) (sz:=2) H rfl rfl rfl (by simp[hw2]) (by simp) fun h4 H=>?_
  have H:HS h2 [bx b [.int .i64 s.procs[i].locs,w]] h4:=H
  have l4:=l2.trans H.base
  have hb0:=H.bxld (o:=0) (u:=.int .i64 s.procs[i].locs) rfl
  have hb1:=H.bxld (o:=1) (u:=w) rfl
  simp -implicitDefEqProofs (disch:=first|omega|(simp only[LnZ];omega))[wrap64,hb0]
  refine c_in.go ?_
  rintro _ _ ⟨rfl,rfl⟩
  by_cases q3:1≤s.procs[i].locs∧s.procs[i].locs≤4
  case neg=>simp -implicitDefEqProofs (disch:=first|omega|(simp only[LnZ];omega))[wrap64,q3,hb1,(R3.on H).len];exact RetK.keep (hno l4 fun hh=>q3 ⟨(hh.at hlx).n1,(hh.at hlx).n4⟩)
  by_cases q4:(6:Int)<s.procs[i].edges.length
  ·simp -implicitDefEqProofs (disch:=first|omega|(simp only[LnZ];omega))[wrap64,q3,q4,hb1,(R3.on H).len];exact RetK.keep (hno l4 fun hh=>by have:=(hh.at hlx).el;omega)
  simp -implicitDefEqProofs (disch:=first|omega|(simp only[LnZ];omega))[wrap64,q3,q4,hb1,(R3.on H).len]
  refine (c_ContainsFunc_impl_Edge (R3.on H) (c1:=[]) (c2:=[.pointer (some ⟨b,0,none⟩)]) (f:=fn_impl_SystemValid_1) rfl (fun e=>!decide (e.Ok s.procs[i].locs)) ?_).go ?_
  ·intro h5 hl5 j hj u Ru
   exact c_SystemValid_1 Ru k1 (hload_le hl5 hb0)
  ·rintro _ h5 ⟨l5,rfl⟩
   have hex:s.procs[i].edges.any (fun e=>!decide (e.Ok s.procs[i].locs))=false↔s.procs[i].Ok:=by
    simp only[List.any_eq_false,Bool.not_eq_true,Bool.not_eq_false',decide_eq_true_iff]
    exact⟨fun hh=>⟨q3.1,q3.2,by omega,hh⟩,fun hh=>hh.ed⟩
   by_cases q5:s.procs[i].Ok
   ·simp -implicitDefEqProofs (disch:=first|omega|(simp only[LnZ];omega))[wrap64,hex.2 q5]
    refine hJ _ _ hlx ⟨l4.trans l5,by simp,fun p hp=>?_⟩
    rw[List.take_add_one,List.getElem?_eq_getElem hlx] at hp
    rcases List.mem_append.1 hp with hp | hp
    ·exact hall p hp
    ·simp at hp;subst hp;exact q5
   ·have hf:s.procs[i].edges.any (fun e=>!decide (e.Ok s.procs[i].locs))=true:=by
     cases hh:s.procs[i].edges.any (fun e=>!decide (e.Ok s.procs[i].locs)) with
     | true=>rfl
     | false=>exact absurd (hex.1 hh) q5
    simp -implicitDefEqProofs (disch:=first|omega|(simp only[LnZ];omega))[wrap64,hf]
    exact RetK.keep (hno (l4.trans l5) fun hh=>q5 (hh.at hlx))
 ·simp -implicitDefEqProofs (disch:=omega)[wrap64]
  rw[List.take_of_length_le (by omega)] at hall
  exact RetK.keep (hk _ _ ⟨l2,by rw[decide_eq_true (show s.Ok from ⟨q1,by omega,by omega,hall⟩)]⟩)
theorem c_l1Arity {h:Heap}{n:Int}:CallE Tryz.prog fn_spec_l1Arity [.int .i64 n] h (fun u h'=>h'=h∧u=.int .i64 (Exq.arity n)):=by
 refine CallE.gen fun k hk=>EN_spec_l1Arity rfl ?_
 by_cases c1:n=1
 ·simp -implicitDefEqProofs (disch:=first|omega|(simp only[LnZ];omega))[wrap64,c1]
  exact RetK.keep (hk _ _ ⟨rfl,by simp[Exq.arity,c1]⟩)
 by_cases c2:n=2
 ·simp -implicitDefEqProofs (disch:=first|omega|(simp only[LnZ];omega))[wrap64,c1,c2]
  exact RetK.keep (hk _ _ ⟨rfl,by simp[Exq.arity,c2]⟩)
 by_cases c3:n=3
 ·simp -implicitDefEqProofs (disch:=first|omega|(simp only[LnZ];omega))[wrap64,c1,c2,c3]
  exact RetK.keep (hk _ _ ⟨rfl,by simp[Exq.arity,c3]⟩)
 by_cases c4:4≤n
 case neg=>
  simp -implicitDefEqProofs (disch:=first|omega|(simp only[LnZ];omega))[wrap64,c1,c2,c3,c4]
  exact RetK.keep (hk _ _ ⟨rfl,by simp[Exq.arity,c1,c2,c3,c4]⟩)
 by_cases c5:n≤9
 case neg=>
  simp -implicitDefEqProofs (disch:=first|omega|(simp only[LnZ];omega))[wrap64,c1,c2,c3,c4,c5]
  exact RetK.keep (hk _ _ ⟨rfl,by simp[Exq.arity,c1,c2,c3,c4,c5]⟩)
 simp -implicitDefEqProofs (disch:=first|omega|(simp only[LnZ];omega))[wrap64,c1,c2,c3,c4,c5]
 exact RetK.keep (hk _ _ ⟨rfl,by simp[Exq.arity,c1,c2,c3,c4,c5]⟩)
noncomputable instance {n:Nat}{x:Exq}:Decidable (x.Shp n):=Classical.propDecidable _
theorem c_l1Shape:∀(n:Nat) {x:Exq}{h:Heap}{v:Value}{dv:Int},dv=n→n≤6→Rep h v x→CallE Tryz.prog fn_spec_l1Shape [v,.int .i64 dv] h (fun u h'=>h'=h∧u=.bool (decide (x.Shp n))):=by
 intro n
 induction n with
 | zero=>
  intro x h v dv hd _ R
  have hd:dv=0:=hd
  obtain⟨w,rfl,k1,k2,R1⟩:=Rep_Exq.1 R
  refine CallE.gen fun k hk=>EN_spec_l1Shape rfl ?_
  simp -implicitDefEqProofs (disch:=first|omega|(simp only[LnZ];omega))[wrap64,hd]
  exact RetK.keep (hk _ _ ⟨rfl,by rw[decide_eq_false (fun hh:x.Shp 0=>hh)]⟩)
 | succ n ih=>
  intro x h v dv hd hd6 R
  obtain⟨w,rfl,k1,k2,R1⟩:=Rep_Exq.1 R
  have hL:=R1.lt
  obtain⟨ln,hln⟩:∃ln:Int,ln=x.kids.length:=⟨_,rfl⟩
  have hlen:=R1.len
  rw[← hln] at hlen
  refine CallE.gen fun k hk=>EN_spec_l1Shape rfl ?_
  have hno:¬x.Shp (n+1)→k (.bool false) h:=fun hh=>hk _ _ ⟨rfl,by rw[decide_eq_false hh]⟩
  simp -implicitDefEqProofs (disch:=first|omega|(simp only[LnZ];omega))[wrap64,hlen,show ¬dv<1 by omega]
  refine c_l1Arity.go ?_
  rintro _ h ⟨rfl,rfl⟩
  by_cases q1:ln=Exq.arity x.kind
  case neg=>simp -implicitDefEqProofs (disch:=first|omega|(simp only[LnZ];omega))[wrap64,q1];exact RetK.keep (hno fun hh=>q1 (by rw[hln];exact hh.1.ar))
  have hm:(x.kind=1∧Exq.most x.kind=3)∨(x.kind=2∧Exq.most x.kind=2)∨((¬x.kind=1∧¬x.kind=2)∧Exq.most x.kind=0):=by
   unfold Exq.most
   by_cases c1:x.kind=1
   ·exact .inl ⟨c1,by simp[c1]⟩
   by_cases c2:x.kind=2
   ·exact .inr (.inl ⟨c2,by simp[c2]⟩)
   ·exact .inr (.inr ⟨⟨c1,c2⟩,by simp[c1,c2]⟩)
  rcases hm with ⟨c1,hmo⟩ | ⟨c1,hmo⟩ | ⟨c1,hmo⟩
  all_goals
   by_cases q2:x.val<0
   ·simp -implicitDefEqProofs (disch:=first|omega|(simp only[LnZ];omega))[wrap64,q1,c1,q2];exact RetK.keep (hno fun hh=>by have:=hh.1.lo;omega)
   by_cases q3:Exq.most x.kind<x.val
   ·rw[hmo] at q3
    simp -implicitDefEqProofs (disch:=first|omega|(simp only[LnZ];omega))[wrap64,q1,c1,q2,q3];exact RetK.keep (hno fun hh=>by have:=hh.1.hi;omega)
   rw[hmo] at q3
   simp -implicitDefEqProofs (disch:=first|omega|(simp only[LnZ];omega))[wrap64,q1,c1,q2,q3]
   refine wp_count x.kids.length (fun i e h'=>h'=h∧(∃kd:Int,kd=x.kind∧e=[none,some (.int .i64 dv),some (.agg #[.int .i64 kd,.int .i64 x.val,w]),none,none,some (.int .i64 i),none])∧∀y∈x.kids.take i,y.Shp n) ⟨rfl,⟨_,rfl,by simp[c1]⟩,by simp⟩ ?_
   rintro J i _ _ hJ hi ⟨rfl,⟨kd,hkd,rfl⟩,hall⟩
   simp -implicitDefEqProofs (disch:=first|omega|(simp only[LnZ];omega))[wrap64,R1.len]
   refine IteW.mk (fun hlt=>?_) (fun hge=>?_)
   ·have hlx:i<x.kids.length:=by omega
    obtain⟨u,hu,Ru⟩:=R1.ld hlx
    change hload _ (some (elp 3 w i)) (some 3)=some u at hu
    simp -implicitDefEqProofs (disch:=first|omega|(simp only[LnZ];omega))[wrap64,R1.X (n:=3) rfl,hu]
    refine (ih (dv:=dv-1) (by omega) (by omega) Ru).go ?_
    rintro _ _ ⟨rfl,rfl⟩
    by_cases q4:x.kids[i].Shp n
    case neg=>simp -implicitDefEqProofs (disch:=first|omega|(simp only[LnZ];omega))[wrap64,q4];exact RetK.keep (hno fun hh=>q4 (hh.kid hlx))
    simp -implicitDefEqProofs (disch:=first|omega|(simp only[LnZ];omega))[wrap64,q4]
    refine hJ _ _ hlx ⟨rfl,⟨kd,hkd,by simp⟩,fun y hy=>?_⟩
    rw[List.take_add_one,List.getElem?_eq_getElem hlx] at hy
    rcases List.mem_append.1 hy with hy | hy
    ·exact hall y hy
    ·simp at hy;subst hy;exact q4
   ·simp -implicitDefEqProofs (disch:=omega)[wrap64]
    rw[List.take_of_length_le (by omega)] at hall
    refine RetK.keep (hk _ _ ⟨rfl,?_⟩)
    rw[decide_eq_true (show x.Shp (n+1) from ⟨⟨by omega,by omega,by omega⟩,hall⟩)]
theorem c_l1Count:∀(n:Nat) {x:Exq}{h:Heap}{v:Value}{dv:Int},dv=n→n≤6→x.Shp n→Rep h v x→CallE Tryz.prog fn_spec_l1Count [v,.int .i64 dv] h (fun u h'=>h'=h∧u=.int .i64 x.nod):=by
 intro n
 induction n with
 | zero=>intro x h v dv hd _ hs;exact hs.elim
 | succ n ih=>
  intro x h v dv hd hd6 hs R
  obtain⟨w,rfl,k1,k2,R1⟩:=Rep_Exq.1 R
  have hL:=R1.lt
  have hbnd:=hs.bnd
  have hpow:2^(n+1)≤2^6:=Nat.pow_le_pow_right (by decide) hd6
  have hnod:=x.nod_eq
  refine CallE.gen fun k hk=>EN_spec_l1Count rfl ?_
  simp -implicitDefEqProofs (disch:=omega)[wrap64]
  refine wp_count x.kids.length (fun i e h'=>h'=h∧e=[none,some (.int .i64 dv),some (.agg #[.int .i64 x.kind,.int .i64 x.val,w]),none,some (.int .i64 ((1+Exq.nods (x.kids.take i):Nat):Int)),some (.int .i64 i)]) ⟨rfl,by simp[Exq.nods]⟩ ?_
  rintro J i _ _ hJ hi ⟨rfl,rfl⟩
  by_cases hlt:i<x.kids.length
  ·obtain⟨u,hu,Ru⟩:=R1.ld hlt
   change hload _ (some (elp 3 w i)) (some 3)=some u at hu
   have hn1:=Exq.nods_take hlt
   have hn2:=Exq.nods_le x.kids (i+1)
   simp -implicitDefEqProofs (disch:=first|omega|(simp only[LnZ];omega))[wrap64,hlt,R1.len,R1.X (n:=3) rfl,hu,show 0<dv by omega]
   refine (ih (dv:=dv-1) (by omega) (by omega) (hs.kid hlt) Ru).go ?_
   rintro _ _ ⟨rfl,rfl⟩
   simp -implicitDefEqProofs (disch:=omega)[wrap64]
   refine hJ _ _ hlt ⟨rfl,?_⟩
   simp[hn1];omega
  ·simp -implicitDefEqProofs (disch:=first|omega|(simp only[LnZ];omega))[wrap64,hlt,R1.len]
   rw[List.take_of_length_le (by omega)]
   refine RetK.keep (hk _ _ ⟨rfl,?_⟩)
   rw[hnod];push_cast;rfl
theorem c_spec_ExprValid {h:Heap}{v:Value}{x:Exq}(R:Rep h v x):CallE Tryz.prog fn_spec_ExprValid [v] h (fun u h'=>h'=h∧u=.bool (decide x.Ok)):=by
 have F:=R.aExq
 refine CallE.gen fun k hk=>EN_spec_ExprValid rfl ?_
 simp -implicitDefEqProofs (disch:=first|omega|(simp only[LnZ];omega))[wrap64,F]
 refine (c_l1Shape 6 (dv:=6) rfl (by omega) R).go ?_
 rintro _ _ ⟨rfl,rfl⟩
 by_cases q1:x.Shp 6
 case neg=>simp -implicitDefEqProofs (disch:=first|omega|(simp only[LnZ];omega))[wrap64,q1];exact RetK.keep (hk _ _ ⟨rfl,by rw[decide_eq_false (fun hh:x.Ok=>q1 hh.1)]⟩)
 simp -implicitDefEqProofs (disch:=first|omega|(simp only[LnZ];omega))[wrap64,q1,F]
 refine (c_l1Count 6 (dv:=6) rfl (by omega) q1 R).go ?_
 rintro _ _ ⟨rfl,rfl⟩
 simp -implicitDefEqProofs (disch:=omega)[wrap64]
 refine RetK.keep (hk _ _ ⟨rfl,?_⟩)
 congr 1
 rw[Bool.eq_iff_iff]
 simp[Exq.Ok,q1]
 omega
theorem c_l2None {h:Heap}{v:Value}{x:Exq}(R:Rep h v x):CallE Tryz.prog fn_spec_l2None [v] h (fun u h'=>h'=h∧u=.bool (decide (x=Exq.zero))):=by
 obtain⟨w,rfl,k1,k2,R1⟩:=Rep_Exq.1 R
 have hno:∀{P:Prop},(P→x=Exq.zero→False)→P→x≠Exq.zero:=fun hh hp he=>hh hp he
 refine CallE.gen fun k hk=>EN_spec_l2None rfl ?_
 by_cases q1:x.kind=0
 case neg=>simp -implicitDefEqProofs (disch:=first|omega|(simp only[LnZ];omega))[wrap64,q1];exact RetK.keep (hk _ _ ⟨rfl,by rw[decide_eq_false (fun hh:x=Exq.zero=>q1 (by rw[hh];rfl))]⟩)
 by_cases q2:x.val=0
 case neg=>simp -implicitDefEqProofs (disch:=first|omega|(simp only[LnZ];omega))[wrap64,q1,q2];exact RetK.keep (hk _ _ ⟨rfl,by rw[decide_eq_false (fun hh:x=Exq.zero=>q2 (by rw[hh];rfl))]⟩)
 simp -implicitDefEqProofs (disch:=first|omega|(simp only[LnZ];omega))[wrap64,q1,q2,R1.len]
 refine RetK.keep (hk _ _ ⟨rfl,?_⟩)
 congr 1
 rw[Bool.eq_iff_iff]
 simp[Exq.ext_iff',q1,q2,Exq.zero]
theorem c_spec_EdgeValid {h:Heap}{v:Value}{e:Ed}(R:Rep h v e) {n:Int}:CallE Tryz.prog fn_spec_EdgeValid [v,.int .i64 n] h (fun u h'=>h'=h∧u=.bool (decide (e.Ok n))):=by
 obtain⟨w1,w2,rfl,ok,R1,R2⟩:=Rep_Ed.1 R
 have G1:Rep h (.agg #[.int .i64 e.guard.kind,.int .i64 e.guard.val,w1]) e.guard:=Rep_Exq.2 ⟨w1,rfl,ok.gk,ok.gv,R1⟩
 have G2:Rep h (.agg #[.int .i64 e.value.kind,.int .i64 e.value.val,w2]) e.value:=Rep_Exq.2 ⟨w2,rfl,ok.vk,ok.vv,R2⟩
 refine CallE.gen fun k hk=>EN_spec_EdgeValid rfl ?_
 have hno:¬e.Ok n→k (.bool false) h:=fun hh=>hk _ _ ⟨rfl,by rw[decide_eq_false hh]⟩
 have hyes:e.Ok n→k (.bool true) h:=fun hh=>hk _ _ ⟨rfl,by rw[decide_eq_true hh]⟩
 by_cases a1:e.frm<0
 ·simp -implicitDefEqProofs (disch:=first|omega|(simp only[LnZ];omega))[wrap64,a1,Ed.cs];exact RetK.keep (hno fun hh=>by have:=hh.f0;omega)
 by_cases a2:n≤e.frm
 ·simp -implicitDefEqProofs (disch:=first|omega|(simp only[LnZ];omega))[wrap64,a1,a2,Ed.cs];exact RetK.keep (hno fun hh=>by have:=hh.f1;omega)
 by_cases a3:e.to<0
 ·simp -implicitDefEqProofs (disch:=first|omega|(simp only[LnZ];omega))[wrap64,a1,a2,a3,Ed.cs];exact RetK.keep (hno fun hh=>by have:=hh.t0;omega)
 by_cases a4:n≤e.to
 ·simp -implicitDefEqProofs (disch:=first|omega|(simp only[LnZ];omega))[wrap64,a1,a2,a3,a4,Ed.cs];exact RetK.keep (hno fun hh=>by have:=hh.t1;omega)
 by_cases a5:4<n
 ·simp -implicitDefEqProofs (disch:=first|omega|(simp only[LnZ];omega))[wrap64,a1,a2,a3,a4,a5,Ed.cs];exact RetK.keep (hno fun hh=>by have:=hh.n4;omega)
 simp -implicitDefEqProofs (disch:=first|omega|(simp only[LnZ];omega))[wrap64,a1,a2,a3,a4,a5,Ed.cs]
 refine (c_spec_ExprValid G1).go ?_
 rintro _ _ ⟨rfl,rfl⟩
 by_cases q4:e.guard.Ok
 case neg=>simp -implicitDefEqProofs (disch:=first|omega|(simp only[LnZ];omega))[wrap64,q4];exact RetK.keep (hno fun hh=>q4 hh.gd)
 by_cases b1:e.sync < -2
 ·simp -implicitDefEqProofs (disch:=first|omega|(simp only[LnZ];omega))[wrap64,q4,b1,Ed.cs];exact RetK.keep (hno fun hh=>by have:=hh.s0;omega)
 by_cases b2:2<e.sync
 ·simp -implicitDefEqProofs (disch:=first|omega|(simp only[LnZ];omega))[wrap64,q4,b1,b2,Ed.cs];exact RetK.keep (hno fun hh=>by have:=hh.s1;omega)
 by_cases b3:e.var < -1
 ·simp -implicitDefEqProofs (disch:=first|omega|(simp only[LnZ];omega))[wrap64,q4,b1,b2,b3,Ed.cs];exact RetK.keep (hno fun hh=>by have:=hh.v0;omega)
 by_cases b4:3≤e.var
 ·simp -implicitDefEqProofs (disch:=first|omega|(simp only[LnZ];omega))[wrap64,q4,b1,b2,b3,b4,Ed.cs];exact RetK.keep (hno fun hh=>by have:=hh.v1;omega)
 by_cases q6:e.var<0
 ·simp -implicitDefEqProofs (disch:=first|omega|(simp only[LnZ];omega))[wrap64,q4,b1,b2,b3,b4,q6,Ed.cs]
  refine (c_l2None G2).go ?_
  rintro _ _ ⟨rfl,rfl⟩
  by_cases q7:e.value=Exq.zero
  case neg=>simp -implicitDefEqProofs (disch:=first|omega|(simp only[LnZ];omega))[wrap64,q7,q6,Ed.cs,show ¬0≤e.var by omega];exact RetK.keep (hno fun hh=>hh.vl.elim (fun h3=>by omega) (fun h3=>q7 h3.2))
  simp -implicitDefEqProofs (disch:=first|omega|(simp only[LnZ];omega))[wrap64,q7]
  exact RetK.keep (hyes ⟨by omega,by omega,by omega,by omega,by omega,by omega,q4,by omega,by omega,.inr ⟨q6,q7⟩,by omega,by omega⟩)
 ·simp -implicitDefEqProofs (disch:=first|omega|(simp only[LnZ];omega))[wrap64,q4,b1,b2,b3,b4,q6,Ed.cs,show 0≤e.var by omega]
  refine (c_spec_ExprValid G2).go ?_
  rintro _ _ ⟨rfl,rfl⟩
  by_cases q7:e.value.Ok
  case neg=>simp -implicitDefEqProofs (disch:=first|omega|(simp only[LnZ];omega))[wrap64,q7];exact RetK.keep (hno fun hh=>hh.vl.elim (fun h3=>q7 h3.2) (fun h3=>by omega))
  simp -implicitDefEqProofs (disch:=first|omega|(simp only[LnZ];omega))[wrap64,q7]
  exact RetK.keep (hyes ⟨by omega,by omega,by omega,by omega,by omega,by omega,q4,by omega,by omega,.inl ⟨by omega,q7⟩,by omega,by omega⟩)
theorem c_l1Vals {h:Heap}{w:Value}{W:List Int}(Rw:Rep h w W):CallE Tryz.prog fn_spec_l1Vals [w] h (fun u h'=>h'=h∧u=.bool (decide (VOk W))):=by
 have hL:=Rw.lt
 refine CallE.gen fun k hk=>EN_spec_l1Vals rfl ?_
 simp -implicitDefEqProofs (disch:=omega)[wrap64]
 refine wp_count W.length (fun i e h'=>e=[some w,none,some (.int .i64 i)]∧h'=h∧∀(j:Nat) (hj:j<W.length),j<i→0≤W[j]∧W[j]≤3) ⟨rfl,rfl,fun j _ hj=>absurd hj (Nat.not_lt_zero j)⟩ ?_
 rintro J i _ h1 hJ hi ⟨rfl,rfl,hn⟩
 simp -implicitDefEqProofs (disch:=first|omega|(simp only[LnZ];omega))[wrap64,Rw.len]
 refine IteW.mk (fun hlt=>?_) (fun hge=>?_)
 ·have hlx:i<W.length:=by omega
  have hno:¬(0≤W[i]∧W[i]≤3)→k (.bool false) h1:=fun hx=>hk _ _ ⟨rfl,by rw[decide_eq_false (fun hh:VOk W=>hx (hh.at hlx))]⟩
  by_cases h1:W[i]<0
  ·simp -implicitDefEqProofs (disch:=first|omega|(simp only[LnZ];omega))[wrap64,Rw.I,h1]
   exact RetK.keep (hno (by omega))
  by_cases h2:3<W[i]
  ·simp -implicitDefEqProofs (disch:=first|omega|(simp only[LnZ];omega))[wrap64,Rw.I,h1,h2]
   exact RetK.keep (hno (by omega))
  simp -implicitDefEqProofs (disch:=first|omega|(simp only[LnZ];omega))[wrap64,Rw.I,h1,h2]
  refine hJ _ _ hlx ⟨rfl,rfl,fun j hj hji=>?_⟩
  by_cases hji2:j=i
  ·subst hji2;omega
  ·exact hn j hj (by omega)
 ·simp -implicitDefEqProofs (disch:=first|omega|(simp only[LnZ];omega))[wrap64,Rw.len]
  refine RetK.keep (hk _ _ ⟨rfl,?_⟩)
  congr 1
  rw[Bool.eq_iff_iff,decide_eq_true_iff,decide_eq_true_iff]
  refine⟨fun h3=>⟨by omega,fun x hx=>?_⟩,fun h3=>by have:=h3.len;omega⟩
  obtain⟨j,hj,rfl⟩:=List.mem_iff_getElem.1 hx
  exact hn j hj (by omega)
theorem c_l2Process {h:Heap}{v:Value}{p:Pr}(R:Rep h v p):CallE Tryz.prog fn_spec_l2Process [v] h (fun u h'=>h'=h∧u=.bool (decide p.Ok)):=by
 obtain⟨w,rfl,k1,R1⟩:=Rep_Pr.1 R
 have hL:=R1.lt
 refine CallE.gen fun k hk=>EN_spec_l2Process rfl ?_
 simp -implicitDefEqProofs (disch:=omega)[wrap64]
 refine wp_count p.edges.length (fun i e h'=>e=[none,some (.agg #[.int .i64 p.locs,w]),none,some (.int .i64 i)]∧h'=h∧∀x∈p.edges.take i,x.Ok p.locs) ⟨by simp,rfl,by simp⟩ ?_
 rintro J i _ h1 hJ hi ⟨rfl,rfl,hall⟩
 simp -implicitDefEqProofs (disch:=first|omega|(simp only[LnZ];omega))[wrap64,R1.len]
 refine IteW.mk (fun hlt=>?_) (fun hge=>?_)
 ·have hlx:i<p.edges.length:=by omega
  obtain⟨u,hu,Ru⟩:=R1.ld hlx
  change hload _ (some (elp 10 w i)) (some 10)=some u at hu
  simp -implicitDefEqProofs (disch:=first|omega|(simp only[LnZ];omega))[wrap64,R1.X (n:=10) rfl,hu]
  refine (c_spec_EdgeValid Ru).go ?_
  rintro _ _ ⟨rfl,rfl⟩
  by_cases q:p.edges[i].Ok p.locs
  case neg=>simp -implicitDefEqProofs (disch:=first|omega|(simp only[LnZ];omega))[wrap64,q];exact RetK.keep (hk _ _ ⟨rfl,by rw[decide_eq_false (fun hh:p.Ok=>q (hh.at hlx))]⟩)
  simp -implicitDefEqProofs (disch:=first|omega|(simp only[LnZ];omega))[wrap64,q]
  refine hJ _ _ hlx ⟨by simp,rfl,fun x hx=>?_⟩
  rw[List.take_add_one,List.getElem?_eq_getElem hlx] at hx
  rcases List.mem_append.1 hx with hx | hx
  ·exact hall x hx
  ·simp at hx;subst hx;exact q
 ·simp -implicitDefEqProofs (disch:=omega)[wrap64]
  rw[List.take_of_length_le (by omega)] at hall
  have hno:¬p.Ok→k (.bool false) h1:=fun hx=>hk _ _ ⟨rfl,by rw[decide_eq_false hx]⟩
  by_cases a1:1≤p.locs
  case neg=>simp -implicitDefEqProofs (disch:=first|omega|(simp only[LnZ];omega))[wrap64,a1];exact RetK.keep (hno fun hh=>a1 hh.n1)
  by_cases a2:p.locs≤4
  case neg=>simp -implicitDefEqProofs (disch:=first|omega|(simp only[LnZ];omega))[wrap64,a1,a2];exact RetK.keep (hno fun hh=>a2 hh.n4)
  simp -implicitDefEqProofs (disch:=first|omega|(simp only[LnZ];omega))[wrap64,a1,a2,R1.len]
  refine RetK.keep (hk _ _ ⟨rfl,?_⟩)
  congr 1
  rw[Bool.eq_iff_iff,decide_eq_true_iff,decide_eq_true_iff]
  exact⟨fun h3=>⟨a1,a2,by omega,hall⟩,fun h3=>by have:=h3.el;omega⟩
theorem c_spec_SystemValid {h:Heap}{v:Value}{s:Sy}(R:Rep h v s):CallE Tryz.prog fn_spec_SystemValid [v] h (fun u h'=>h'=h∧u=.bool (decide s.Ok)):=by
 obtain⟨v1,v2,rfl,R0,R1⟩:=Rep_Sy.1 R
 have hL:=R1.lt
 refine CallE.gen fun k hk=>EN_spec_SystemValid rfl ?_
 simp -implicitDefEqProofs (disch:=omega)[wrap64]
 refine wp_count s.procs.length (fun i e h'=>e=[none,some (.agg #[v1,v2]),none,some (.int .i64 i)]∧h'=h∧∀x∈s.procs.take i,x.Ok) ⟨by simp,rfl,by simp⟩ ?_
 rintro J i _ h1 hJ hi ⟨rfl,rfl,hall⟩
 simp -implicitDefEqProofs (disch:=first|omega|(simp only[LnZ];omega))[wrap64,R1.len]
 refine IteW.mk (fun hlt=>?_) (fun hge=>?_)
 ·have hlx:i<s.procs.length:=by omega
  obtain⟨u,hu,Ru⟩:=R1.ld hlx
  change hload _ (some (elp 2 v2 i)) (some 2)=some u at hu
  simp -implicitDefEqProofs (disch:=first|omega|(simp only[LnZ];omega))[wrap64,R1.X (n:=2) rfl,hu]
  refine (c_l2Process Ru).go ?_
  rintro _ _ ⟨rfl,rfl⟩
  by_cases q:s.procs[i].Ok
  case neg=>simp -implicitDefEqProofs (disch:=first|omega|(simp only[LnZ];omega))[wrap64,q];exact RetK.keep (hk _ _ ⟨rfl,by rw[decide_eq_false (fun hh:s.Ok=>q (hh.at hlx))]⟩)
  simp -implicitDefEqProofs (disch:=first|omega|(simp only[LnZ];omega))[wrap64,q]
  refine hJ _ _ hlx ⟨by simp,rfl,fun x hx=>?_⟩
  rw[List.take_add_one,List.getElem?_eq_getElem hlx] at hx
  rcases List.mem_append.1 hx with hx | hx
  ·exact hall x hx
  ·simp at hx;subst hx;exact q
 ·simp -implicitDefEqProofs (disch:=omega)[wrap64]
  rw[List.take_of_length_le (by omega)] at hall
  have hno:¬s.Ok→k (.bool false) h1:=fun hx=>hk _ _ ⟨rfl,by rw[decide_eq_false hx]⟩
  refine (c_l1Vals R0).go ?_
  rintro _ _ ⟨rfl,rfl⟩
  by_cases a0:VOk s.init
  case neg=>simp -implicitDefEqProofs (disch:=first|omega|(simp only[LnZ];omega))[wrap64,a0];exact RetK.keep (hno fun hh=>a0 hh.vs)
  by_cases a1:(1:Int)≤s.procs.length
  case neg=>simp -implicitDefEqProofs (disch:=first|omega|(simp only[LnZ];omega))[wrap64,a0,a1,R1.len];exact RetK.keep (hno fun hh=>a1 (by have:=hh.p1;omega))
  simp -implicitDefEqProofs (disch:=first|omega|(simp only[LnZ];omega))[wrap64,a0,a1,R1.len]
  refine RetK.keep (hk _ _ ⟨rfl,?_⟩)
  congr 1
  rw[Bool.eq_iff_iff,decide_eq_true_iff,decide_eq_true_iff]
  exact⟨fun h3=>⟨a0,by omega,by omega,hall⟩,fun h3=>by have:=h3.p3;omega⟩
theorem c_heldIntS {h:Heap}{v:Value}{x:List Int}{k0:Int}(Rv:Rep h v x) (hk0:0≤k0) (hk1:k0+Mk.cnt x<4611686018427387904):CallE Tryz.prog fn_laws_heldIntS [v,.int .i64 k0] h (fun u h'=>h'=h∧u=.int .i64 (if Mk.wr k0 x=x then k0+Mk.cnt x else -1)):=by
 refine CallE.gen fun k hk=>EN_laws_heldIntS rfl ?_
 have hL:=Rv.lt
 have hcx:Mk.cnt x=cntL x:=rfl
 simp -implicitDefEqProofs (disch:=omega)[wrap64]
 refine wp_count x.length (fun i e h'=>h'=h∧e=[some v,some (.int .i64 (k0+cntL (x.take i))),none,some (.int .i64 i)]∧(mkL k0 x).take i=x.take i) ⟨rfl,by simp[cntL],rfl⟩ ?_
 rintro J i _ _ hJ hi ⟨rfl,rfl,M⟩
 simp -implicitDefEqProofs (disch:=first|omega|(simp only[LnZ];omega))[wrap64,Rv.len]
 refine IteW.mk (fun hlt=>?_) (fun hge=>?_)
 ·have hlx:i<x.length:=by omega
  have hb:=cntL_le x (i+1)
  have hc:=cntL_take x i hlx
  have hg:=mkL_get k0 x i hlx
  have h1:Mk.cnt x[i]=1:=rfl
  obtain⟨q,hq⟩:∃q,q=k0+cntL (x.take i):=⟨_,rfl⟩
  rw[← hq] at hg ⊢
  simp -implicitDefEqProofs (disch:=first|omega|(simp only[LnZ];omega))[wrap64,Rv.I]
  refine IteW.mk (fun hq2=>?_) (fun hq2=>?_)
  ·simp -implicitDefEqProofs (disch:=omega)[wrap64]
   refine hJ _ _ hlx ⟨rfl,by rw[hc,h1,hq];push_cast;simp[Int.add_assoc],take_step M (by simpa using hlx) hlx ?_⟩
   rw[hg]
   exact hq2.symm
  ·simp -implicitDefEqProofs (disch:=omega)[wrap64]
   refine RetK.keep (hk _ _ ⟨rfl,?_⟩)
   rw[if_neg]
   intro he
   have he2:mkL k0 x=x:=he
   simp only[he2] at hg
   exact hq2 hg
 ·simp -implicitDefEqProofs (disch:=omega)[wrap64]
  have h2:x.take i=x:=List.take_of_length_le (by omega)
  rw[List.take_of_length_le (by simp;omega),h2] at M
  exact RetK.keep (hk _ _ ⟨rfl,by rw[h2];exact congrArg _ (if_pos M).symm⟩)
def Sta.zero:Sta:=⟨[],[]⟩
theorem Rep.gd {h:Heap}{e:Ed}{w1 w2:Value}(ok:e.ok) (R1:Rep h w1 e.guard.kids):Rep h (.agg #[.int .i64 e.guard.kind,.int .i64 e.guard.val,w1]) e.guard:=Rep_Exq.2 ⟨w1,rfl,ok.gk,ok.gv,R1⟩
theorem Rep.vl {h:Heap}{e:Ed}{w2:Value}(ok:e.ok) (R1:Rep h w2 e.value.kids):Rep h (.agg #[.int .i64 e.value.kind,.int .i64 e.value.val,w2]) e.value:=Rep_Exq.2 ⟨w2,rfl,ok.vk,ok.vv,R1⟩
theorem c_markExprS':∀(x0:Exq) {g h:Heap}{Γ:List HP}{v:Value}{k0:Int},HS g (ow v x0.kids::Γ) h→0≤k0→k0+Mk.cnt x0.kids<4611686018427387904 →
  CallE Tryz.prog fn_laws_markExprS [v,.int .i64 k0] h (fun u h'=>HS g (ow v (Mk.wr k0 x0.kids)::Γ) h'∧u=.int .i64 (k0+Mk.cnt x0.kids)):=by
 refine Exq.ind fun x0 ih g h Γ v k0 H hk0 hk1=>?_
 generalize hx0:x0.kids=x at *
 refine CallE.gen fun k hk=>EN_laws_markExprS rfl ?_
 simp -implicitDefEqProofs (disch:=omega)[wrap64]
 refine wp_count x.length (fun i e h'=>e=[some v,some (.int .i64 (k0+cntL (x.take i))),none,some (.int .i64 i)]∧∃y,HS g (ow v y::Γ) h'∧Mkd k0 x y i) ⟨by simp[cntL],x,H,Mkd.zero⟩ ?_
 rintro J i _ h2 hJ hi ⟨rfl,y,H,M⟩
 have hl:=M.len
 have hL:=H.rep.lt
 have hcx:Mk.cnt x=cntL x:=rfl
 simp -implicitDefEqProofs (disch:=first|omega|(simp only[LnZ];omega))[wrap64,H.rep.len]
 refine IteW.mk (fun hlt=>?_) (fun hge=>?_)
 ·have hlx:i<x.length:=by omega
  have hly:i<y.length:=by omega
  have hb:=cntL_le x (i+1)
  have hc:=cntL_take x i hlx
  have hce:=cnt_Exq x[i]
  have hwe:=wr_Exq (k0+cntL (x.take i)) x[i]
  have M':=M.step hlx
  obtain⟨q,hq⟩:∃q,q=k0+cntL (x.take i):=⟨_,rfl⟩
  obtain⟨u,hu,H⟩:=HS.take H hly
  rw[M.get hlx] at H
  obtain⟨w,rfl,k1,k2,H⟩:=H.unExq
  have hia:=HS.holeia H.sw1 (n:=3) (kd:=.i64) rfl hly
  have hP:=hld_parts (HS.holeP H.sw1 (n:=3) rfl rfl)
  rw[← hq] at hwe M' ⊢
  simp -implicitDefEqProofs (disch:=first|omega|(simp only[LnZ];omega))[wrap64,hia,hP.1]
  refine HS.holest H.sw1 rfl (n:=3) rfl rfl rfl rfl rfl (by decide) fun h3 H=>?_
  replace H:HS g (hole v y i (.agg #[.int .i64 q,.int .i64 x[i].val,w])::ow w x[i].kids::Γ) h3:=H
  have hP:=hld_parts (HS.holeP H (n:=3) rfl rfl)
  simp -implicitDefEqProofs (disch:=first|omega|(simp only[LnZ];omega))[wrap64,hia,hP.1]
  refine HS.holest H rfl (n:=3) rfl rfl rfl rfl rfl (by decide) fun h4 H=>?_
  replace H:HS g (hole v y i (.agg #[.int .i64 q,.int .i64 (q+1),w])::ow w x[i].kids::Γ) h4:=H
  have hP:=hld_parts (HS.holeP H (n:=3) rfl rfl)
  simp -implicitDefEqProofs (disch:=first|omega|(simp only[LnZ];omega))[wrap64,hia,hP.1,hP.2.2.1]
  refine (ih x[i] (List.getElem_mem hlx) (k0:=q+1+1) H.sw1 (by omega) (by omega)).go ?_
  rintro _ h5 ⟨H,rfl⟩
  have H:=HS.put (H.mkExq' (kd:=q) (vl:=q+1) ⟨by omega,by omega⟩ ⟨by omega,by omega⟩)
  simp -implicitDefEqProofs (disch:=omega)[wrap64]
  refine hJ _ _ hlx ⟨?_,_,H,?_⟩
  ·simp only[List.cons.injEq,Option.some.injEq,Value.int.injEq,true_and,and_true]
   refine⟨?_,by simp⟩
   rw[hc];push_cast;omega
  ·rw[hwe,show q+2=q+1+1 by omega] at M'
   exact M'
 ·simp -implicitDefEqProofs (disch:=omega)[wrap64]
  have h2:x.take i=x:=List.take_of_length_le (by omega)
  refine RetK.keep (hk _ _ ⟨?_,by rw[h2];rfl⟩)
  have h3:y=Mk.wr k0 x:=M.all (by omega)
  rw[← h3];exact H
theorem c_markExprS {g h:Heap}{Γ:List HP}{v:Value}{x:List Exq}{k0:Int}(H:HS g (ow v x::Γ) h) (hk0:0≤k0) (hk1:k0+Mk.cnt x<4611686018427387904) :
  CallE Tryz.prog fn_laws_markExprS [v,.int .i64 k0] h (fun u h'=>HS g (ow v (Mk.wr k0 x)::Γ) h'∧u=.int .i64 (k0+Mk.cnt x)):=c_markExprS' (Exq.mk 0 0 x) H hk0 hk1
theorem c_markEdgeS {g h:Heap}{Γ:List HP}{v:Value}{x:List Ed}{k0:Int}(H:HS g (ow v x::Γ) h) (hk0:0≤k0) (hk1:k0+Mk.cnt x<4611686018427387904) :
  CallE Tryz.prog fn_laws_markEdgeS [v,.int .i64 k0] h (fun u h'=>HS g (ow v (Mk.wr k0 x)::Γ) h'∧u=.int .i64 (k0+Mk.cnt x)):=by
 refine CallE.gen fun k hk=>EN_laws_markEdgeS rfl ?_
 simp -implicitDefEqProofs (disch:=omega)[wrap64]
 refine wp_count x.length (fun i e h'=>e=[some v,some (.int .i64 (k0+cntL (x.take i))),none,some (.int .i64 i)]∧∃y,HS g (ow v y::Γ) h'∧Mkd k0 x y i) ⟨by simp[cntL],x,H,Mkd.zero⟩ ?_
 rintro J i _ h2 hJ hi ⟨rfl,y,H,M⟩
 have hl:=M.len
 have hL:=H.rep.lt
 have hcx:Mk.cnt x=cntL x:=rfl
 simp -implicitDefEqProofs (disch:=first|omega|(simp only[LnZ];omega))[wrap64,H.rep.len]
 refine IteW.mk (fun hlt=>?_) (fun hge=>?_)
 ·have hlx:i<x.length:=by omega
  have hly:i<y.length:=by omega
  have hb:=cntL_le x (i+1)
  have hc:=cntL_take x i hlx
  have hce:=cnt_Ed x[i]
  have M':=M.step hlx
  obtain⟨q,hq⟩:∃q,q=k0+cntL (x.take i):=⟨_,rfl⟩
  obtain⟨u,hu,H⟩:=HS.take H hly
  rw[M.get hlx] at H
  obtain⟨n1,hn1⟩:∃n1,n1=Mk.cnt x[i].guard.kids:=⟨_,rfl⟩
  obtain⟨n2,hn2⟩:∃n2,n2=Mk.cnt x[i].value.kids:=⟨_,rfl⟩
  have hwe:Mk.wr q x[i]=⟨q,q+1,.mk (q+1+1) (q+1+1+1) (Mk.wr (q+1+1+1+1) x[i].guard.kids),q+1+1+1+1+n1,
    .mk (q+1+1+1+1+n1+1) (q+1+1+1+1+n1+1+1) (Mk.wr (q+1+1+1+1+n1+1+1+1) x[i].value.kids),q+1+1+1+1+n1+1+1+1+n2⟩:=by
   show (⟨_,_,Mk.wr _ x[i].guard,_,Mk.wr _ x[i].value,_⟩:Ed)=_
   rw[wr_Exq,wr_Exq,Ed.ext_iff']
   have e1:=cnt_Exq x[i].guard
   have e2:=cnt_Exq x[i].value
   have e3:Mk.cnt x[i].frm=1:=rfl
   have e4:Mk.cnt x[i].to=1:=rfl
   have e5:Mk.cnt x[i].var=1:=rfl
   have e6:∀(a b:Int) (l:List Exq),a=b→Mk.wr a l=Mk.wr b l:=fun a b l h=>by rw[h]
   simp only[Exq.ext_iff',Exq.kind_mk,Exq.val_mk,Exq.kids_mk]
   refine⟨rfl,?_,⟨?_,?_,e6 _ _ _ ?_⟩,?_,⟨?_,?_,e6 _ _ _ ?_⟩,?_⟩<;>(try show _+_=_)<;>(try show Mk.wr _ (_:Int)=_)<;>(try simp only[Mk.wr])<;>push_cast [e1,e2,e3,e4,e5]<;>omega
  rw[← hn1,← hn2] at hce
  obtain⟨w1,w2,rfl,ok,H⟩:=H.unEd
  replace H:=H.sw2
  have hia:=HS.holeia H (n:=10) (kd:=.i64) rfl hly
  have hP:=hld_parts (HS.holeP H (n:=10) rfl rfl)
  rw[← hq] at M' ⊢
  simp -implicitDefEqProofs (disch:=first|omega|(simp only[LnZ];omega))[wrap64,hia,hP.1,hP.2.1]
  refine HS.holest H rfl (n:=10) rfl rfl rfl rfl rfl (by decide) fun h3 H=>?_
  have hP:=hld_parts (HS.holeP H (n:=10) rfl rfl)
  simp -implicitDefEqProofs (disch:=first|omega|(simp only[LnZ];omega))[wrap64,hia,hP.1,hP.2.1]
  refine HS.holest H rfl (n:=10) rfl rfl rfl rfl rfl (by decide) fun h4 H=>?_
  have hP:=hld_parts (HS.holeP H (n:=10) rfl rfl)
  simp -implicitDefEqProofs (disch:=first|omega|(simp only[LnZ];omega))[wrap64,hia,hP.1,hP.2.1]
  refine HS.holest H rfl (n:=10) rfl rfl rfl rfl rfl (by decide) fun h5 H=>?_
  have hP:=hld_parts (HS.holeP H (n:=10) rfl rfl)
  simp -implicitDefEqProofs (disch:=first|omega|(simp only[LnZ];omega))[wrap64,hia,hP.1,hP.2.1]
  refine HS.holest H rfl (n:=10) rfl rfl rfl rfl rfl (by decide) fun h6 H=>?_
  replace H:HS g (hole v y i (.agg #[.int .i64 q,.int .i64 (q+1),.int .i64 (q+1+1),.int .i64 (q+1+1+1),w1,.int .i64 x[i].var,.int .i64 x[i].value.kind,.int .i64 x[i].value.val,w2,.int .i64 x[i].sync])::ow w1 x[i].guard.kids::ow w2 x[i].value.kids::Γ) h6:=H
  have hP:=hld_parts (HS.holeP H (n:=10) rfl rfl)
  simp -implicitDefEqProofs (disch:=first|omega|(simp only[LnZ];omega))[wrap64,hia,hP.1,hP.2.1,hP.2.2.1]
  refine (c_markExprS (k0:=q+1+1+1+1) H.sw1 (by omega) (by omega)).go ?_
  rintro _ h7 ⟨H,rfl⟩
  rw[← hn1]
  replace H:=H.sw1
  have hP:=hld_parts (HS.holeP H (n:=10) rfl rfl)
  simp -implicitDefEqProofs (disch:=first|omega|(simp only[LnZ];omega))[wrap64,hia,hP.1,hP.2.1]
  refine HS.holest H rfl (n:=10) rfl rfl rfl rfl rfl (by decide) fun h8 H=>?_
  have hP:=hld_parts (HS.holeP H (n:=10) rfl rfl)
  simp -implicitDefEqProofs (disch:=first|omega|(simp only[LnZ];omega))[wrap64,hia,hP.1,hP.2.1]
  refine HS.holest H rfl (n:=10) rfl rfl rfl rfl rfl (by decide) fun h9 H=>?_
  have hP:=hld_parts (HS.holeP H (n:=10) rfl rfl)
  simp -implicitDefEqProofs (disch:=first|omega|(simp only[LnZ];omega))[wrap64,hia,hP.1,hP.2.1]
  refine HS.holest H rfl (n:=10) rfl rfl rfl rfl rfl (by decide) fun h10 H=>?_
  replace H:HS g (hole v y i (.agg #[.int .i64 q,.int .i64 (q+1),.int .i64 (q+1+1),.int .i64 (q+1+1+1),w1,.int .i64 (q+1+1+1+1+n1),.int .i64 (q+1+1+1+1+n1+1),.int .i64 (q+1+1+1+1+n1+1+1),w2,.int .i64 x[i].sync])::ow w1 (Mk.wr (q+1+1+1+1) x[i].guard.kids)::ow w2 x[i].value.kids::Γ) h10:=H
  have hP:=hld_parts (HS.holeP H (n:=10) rfl rfl)
  simp -implicitDefEqProofs (disch:=first|omega|(simp only[LnZ];omega))[wrap64,hia,hP.1,hP.2.1,hP.2.2.1]
  refine (c_markExprS (k0:=q+1+1+1+1+n1+1+1+1) H.sw2 (by omega) (by omega)).go ?_
  rintro _ h11 ⟨H,rfl⟩
  rw[← hn2]
  replace H:=H.sw1
  have hP:=hld_parts (HS.holeP H (n:=10) rfl rfl)
  simp -implicitDefEqProofs (disch:=first|omega|(simp only[LnZ];omega))[wrap64,hia,hP.1,hP.2.1]
  refine HS.holest H rfl (n:=10) rfl rfl rfl rfl rfl (by decide) fun h12 H=>?_
  have ok':Ed.ok ⟨q,q+1,.mk (q+1+1) (q+1+1+1) (Mk.wr (q+1+1+1+1) x[i].guard.kids),q+1+1+1+1+n1,
    .mk (q+1+1+1+1+n1+1) (q+1+1+1+1+n1+1+1) (Mk.wr (q+1+1+1+1+n1+1+1+1) x[i].value.kids),q+1+1+1+1+n1+1+1+1+n2⟩:=by
   refine⟨?_,?_,?_,?_,?_,?_,?_,?_⟩<;>(simp only[I64,Exq.kind_mk,Exq.val_mk])<;>constructor<;>omega
  have H:=HS.put (HS.mkEd (e:=⟨q,q+1,.mk (q+1+1) (q+1+1+1) (Mk.wr (q+1+1+1+1) x[i].guard.kids),q+1+1+1+1+n1,
    .mk (q+1+1+1+1+n1+1) (q+1+1+1+1+n1+1+1) (Mk.wr (q+1+1+1+1+n1+1+1+1) x[i].value.kids),q+1+1+1+1+n1+1+1+1+n2⟩) H.sw2.sw2.sw1 ok')
  simp -implicitDefEqProofs (disch:=omega)[wrap64]
  refine hJ _ _ hlx ⟨?_,_,H,?_⟩
  ·simp only[List.cons.injEq,Option.some.injEq,Value.int.injEq,true_and,and_true]
   refine⟨?_,by simp⟩
   rw[hc];push_cast;omega
  ·rw[← hwe];exact M'
 ·simp -implicitDefEqProofs (disch:=omega)[wrap64]
  have h2:x.take i=x:=List.take_of_length_le (by omega)
  refine RetK.keep (hk _ _ ⟨?_,by rw[h2];rfl⟩)
  have h3:y=Mk.wr k0 x:=M.all (by omega)
  rw[← h3];exact H
theorem c_markProcessS {g h:Heap}{Γ:List HP}{v:Value}{x:List Pr}{k0:Int}(H:HS g (ow v x::Γ) h) (hk0:0≤k0) (hk1:k0+Mk.cnt x<4611686018427387904) :
  CallE Tryz.prog fn_laws_markProcessS [v,.int .i64 k0] h (fun u h'=>HS g (ow v (Mk.wr k0 x)::Γ) h'∧u=.int .i64 (k0+Mk.cnt x)):=by
 refine CallE.gen fun k hk=>EN_laws_markProcessS rfl ?_
 simp -implicitDefEqProofs (disch:=omega)[wrap64]
 refine wp_count x.length (fun i e h'=>e=[some v,some (.int .i64 (k0+cntL (x.take i))),none,some (.int .i64 i)]∧∃y,HS g (ow v y::Γ) h'∧Mkd k0 x y i) ⟨by simp[cntL],x,H,Mkd.zero⟩ ?_
 rintro J i _ h2 hJ hi ⟨rfl,y,H,M⟩
 have hl:=M.len
 have hL:=H.rep.lt
 have hcx:Mk.cnt x=cntL x:=rfl
 simp -implicitDefEqProofs (disch:=first|omega|(simp only[LnZ];omega))[wrap64,H.rep.len]
 refine IteW.mk (fun hlt=>?_) (fun hge=>?_)
 ·have hlx:i<x.length:=by omega
  have hly:i<y.length:=by omega
  have hb:=cntL_le x (i+1)
  have hc:=cntL_take x i hlx
  have hce:=cnt_Pr x[i]
  have M':=M.step hlx
  obtain⟨q,hq⟩:∃q,q=k0+cntL (x.take i):=⟨_,rfl⟩
  obtain⟨u,hu,H⟩:=HS.take H hly
  rw[M.get hlx] at H
  obtain⟨w,rfl,k1,H⟩:=H.unPr
  replace H:=H.sw1
  have hia:=HS.holeia H (n:=2) (kd:=.i64) rfl hly
  have hP:=hld_parts (HS.holeP H (n:=2) rfl rfl)
  rw[← hq] at M' ⊢
  simp -implicitDefEqProofs (disch:=first|omega|(simp only[LnZ];omega))[wrap64,hia,hP.1]
  refine HS.holest H rfl (n:=2) rfl rfl rfl rfl rfl (by decide) fun h3 H=>?_
  replace H:HS g (hole v y i (.agg #[.int .i64 q,w])::ow w x[i].edges::Γ) h3:=H
  have hP:=hld_parts (HS.holeP H (n:=2) rfl rfl)
  simp -implicitDefEqProofs (disch:=first|omega|(simp only[LnZ];omega))[wrap64,hia,hP.1,hP.2.2.1]
  refine (c_markEdgeS (k0:=q+1) H.sw1 (by omega) (by omega)).go ?_
  rintro _ h5 ⟨H,rfl⟩
  have H:=HS.put (HS.mkPr (p:=⟨q,Mk.wr (q+1) x[i].edges⟩) H ⟨by dsimp only;omega,by dsimp only;omega⟩)
  simp -implicitDefEqProofs (disch:=omega)[wrap64]
  refine hJ _ _ hlx ⟨?_,_,H,?_⟩
  ·simp only[List.cons.injEq,Option.some.injEq,Value.int.injEq,true_and,and_true]
   refine⟨?_,by simp⟩
   rw[hc];push_cast;omega
  ·exact M'
 ·simp -implicitDefEqProofs (disch:=omega)[wrap64]
  have h2:x.take i=x:=List.take_of_length_le (by omega)
  refine RetK.keep (hk _ _ ⟨?_,by rw[h2];rfl⟩)
  have h3:y=Mk.wr k0 x:=M.all (by omega)
  rw[← h3];exact H
theorem c_markSystem {g h:Heap}{Γ:List HP}{v:Value}{x:Sy}{k0:Int}(H:HS g (ow v x::Γ) h) (hk0:0≤k0) (hk1:k0+Mk.cnt x<4611686018427387904) :
  CallE Tryz.prog fn_laws_markSystem [v,.int .i64 k0] h (fun u h'=>HS g (ow v (Mk.wr k0 x)::Γ) h'∧u=.int .i64 (k0+Mk.cnt x)):=by
 have hc:=cnt_Sy x
 obtain⟨v1,v2,rfl,H0⟩:=H.unSy
 refine CallE.gen fun k hk=>EN_laws_markSystem rfl ?_
 simp -implicitDefEqProofs (disch:=omega)[wrap64]
 refine (c_markIntS (x:=x.init) (k0:=k0) H0 (by omega) (by omega)).go ?_
 rintro _ h1 ⟨H,rfl⟩
 simp -implicitDefEqProofs (disch:=omega)[wrap64]
 refine (c_markProcessS (x:=x.procs) (k0:=k0+(Mk.cnt x.init:Nat)) H.sw1 (by omega) (by omega)).go ?_
 rintro _ h2 ⟨H,rfl⟩
 simp -implicitDefEqProofs (disch:=omega)[wrap64]
 refine RetK.keep (hk _ _ ⟨HS.mkSy (s:=Mk.wr k0 x) H.sw1,?_⟩)
 rw[hc];congr 1;push_cast;omega
theorem HS.only {g h:Heap}{Γ:List HP}{p:HP}(H:HS g (p::Γ) h):HS g [p] h:=by
 obtain⟨g',r,e,d,hp,H⟩:=H
 exact⟨g',r,e,d,hp,H.base⟩
def R2 {α:Type} [Ty α] (b:Bool) (y:α) (h:Heap) (u:Value) (h':Heap):Prop:=∃v,u=.tuple #[v,.bool b]∧HS h [ow v y] h'
theorem cnt_ints (l:List Int):Mk.cnt l=l.length:=by
 induction l with
 | nil=>rfl
 | cons b r ih=>show 1+cntL r=_;have:cntL r=Mk.cnt r:=rfl;rw[this,ih];simp;omega
theorem cnt_cons {α:Type} [Mk α] (x:α) (l:List α):Mk.cnt (x::l)=Mk.cnt x+Mk.cnt l:=rfl
theorem sz_cons {α:Type} [Sz α] (x:α) (l:List α):Sz.sz (x::l)=1+Sz.sz x+Sz.sz l:=by
 simp only[sz_list,szL,List.length_cons];omega
theorem cnt_le {α:Type} [Mk α] [Sz α] {c:Nat}:∀{l:List α},(∀x∈l,Mk.cnt x≤c*(1+Sz.sz x))→Mk.cnt l≤c*Sz.sz l
 | [],_=>by show 0≤_;omega
 | x::l,h=>by
  have h1:=cnt_le (l:=l) fun y hy=>h y (by simp[hy])
  have h2:=h x (by simp)
  rw[cnt_cons,sz_cons,Nat.mul_add]
  omega
theorem cnt_Expr':∀x:Exq,Mk.cnt x.kids≤2*Sz.sz x.kids:=by
 refine Exq.ind fun x ih=>cnt_le fun y hy=>?_
 have h1:=ih y hy
 rw[cnt_Exq,sz_Exq];omega
theorem cnt_ExprS' (l:List Exq):Mk.cnt l≤2*Sz.sz l:=cnt_Expr' (Exq.mk 0 0 l)
theorem Rep.cut {α:Type} [Ty α] {h:Heap}{v:Value}{l:List α}(R:Rep h v l) {n esz:Nat}{k:IntKind}(hn:n≤l.length):∃v',sliceVV esz v none (some (some (.int k n))) none=some v'∧Rep h v' (l.take n):=by
 obtain⟨p,cap,rfl,h1,h2,h3⟩:=Rep_list.1 R
 have hl:(l.take n).length=n:=by simp;omega
 have hc:n≤cap:=by omega
 cases n with
 | zero=>
  cases p with
  | none=>
   refine⟨.slice none 0 cap,?_,Rep_list.2 ⟨none,cap,by simp,by simp,trivial,fun i hi=>by simp at hi⟩⟩
   simp[sliceVV,bndV]
  | some a=>
   by_cases hz:cap=0
   ·refine⟨.slice (some a) 0 cap,?_,Rep_list.2 ⟨some a,cap,by simp,by simp,trivial,fun i hi=>by simp at hi⟩⟩
    simp[sliceVV,bndV,hz]
   ·refine⟨.slice (some (a.add 0)) 0 cap,?_,Rep_list.2 ⟨some (a.add 0),cap,by simp,by simp,trivial,fun i hi=>by simp at hi⟩⟩
    simp[sliceVV,bndV,hz]
 | succ n=>
  obtain⟨b,off,vs,rfl,_⟩:=h3 0 (by omega)
  refine⟨.slice (some ⟨b,off,none⟩) (n+1) cap,?_,Rep_list.2 ⟨_,cap,by rw[hl],by rw[hl];omega,trivial,fun i hi=>?_⟩⟩
  ·simp[sliceVV,bndV,add_none]
   rw[if_pos (by omega)]
  ·rw[hl] at hi
   obtain⟨b',off',vs,e1,e2,e3⟩:=h3 i (by omega)
   exact⟨b',off',vs,e1,e2,by simpa using e3⟩
def Dst (l:List Int) (n:Nat):Prop:=∀(i:Nat) (hi:i<l.length),0≤l[i]∧l[i]<n∧l[i]∉l.take i
noncomputable instance instDecDst {l:List Int}{n:Nat}:Decidable (Dst l n):=Classical.propDecidable _
theorem Dst.le {l:List Int}{n:Nat}(h:Dst l n):l.length≤n:=by
 have h1:(l.map Int.toNat).Nodup:=by
  rw[List.nodup_iff_pairwise_ne,List.pairwise_iff_getElem]
  intro i j hi hj hij he
  simp only[List.length_map] at hi hj
  simp only[List.getElem_map] at he
  have a:=h i hi
  have b:=h j hj
  refine b.2.2 ?_
  have e2:l[i]=l[j]:=by omega
  rw[← e2]
  exact List.mem_iff_getElem.2 ⟨i,by simp;omega,by simp⟩
 have h2:(l.map Int.toNat) ⊆ List.range n:=by
  intro x hx
  obtain⟨y,hy,rfl⟩:=List.mem_map.1 hx
  obtain⟨i,hi,rfl⟩:=List.mem_iff_getElem.1 hy
  have:=h i hi
  rw[List.mem_range];omega
 simpa using List.Nodup.length_le_of_subset h1 h2
structure Gr.Ok (g:Gr):Prop where
 n1:1≤g.states.length
 n60:g.states.length≤60
 nl:g.next.length=g.states.length
 vs:∀st∈g.states,VOk st.vals
 nx:∀l∈g.next,l≠[]∧Dst l g.states.length
noncomputable instance instDecGrOk {g:Gr}:Decidable g.Ok:=Classical.propDecidable _
instance instTyU8:Ty (BitVec 8) where
 agg:=false
 sz:=1
 rep:=fun _ cs n=>cs=[.int .u8 n.toNat]
 own:=fun r cs n=>r=Heap.nil∧cs=[.int .u8 n.toNat]
 one:=fun _=>rfl
 len:=by rintro h cs x rfl;rfl
 cell:=by rintro h cs x rfl v hv;simp at hv;subst hv;rfl
 mono:=fun _ hr=>hr
 own_rep:=fun ho=>ho.2
instance instFlatU8:Flat (BitVec 8):=⟨fun n=>[.int .u8 n.toNat],fun _=>True,by simp[Ty.rep],by simp[Ty.own]⟩
abbrev rb (b:Nat) (sl:Value) (p:Int):HP:=bx b [sl,.int .i64 p]
theorem Tx_mk {l:List UInt8}:(⟨l.toArray⟩:ByteArray)=Tx l:=rfl
attribute [simp] Tx_mk Tx_size Tx_add
@[simp] theorem mxA {a b:Nat}(h:a+b<4611686018427387904):(9223372036854775807<(a:Int)+(b:Int))=False:=by
 simp only[eq_iff_iff,iff_false];omega
@[simp] theorem mxD {a:Nat}(h:a+1<4611686018427387904):(9223372036854775807<(a:Int)+1)=False:=by
 simp only[eq_iff_iff,iff_false];omega
@[simp] theorem mxE {a:Nat}(h:a+1<4611686018427387904):(9223372036854775807<1+(a:Int))=False:=by
 simp only[eq_iff_iff,iff_false];omega
@[simp] theorem mxF {a b:Nat}(h:a+b<4611686018427387904):(9223372036854775807<(a:Int)+1+(b:Int))=False:=by
 simp only[eq_iff_iff,iff_false];omega
@[simp] theorem mxB {a b:Nat}(h:a+b<4611686018427387904):(9223372036854775807<(a:Int)+(b:Int)+1)=False:=by
 simp only[eq_iff_iff,iff_false];omega
@[simp] theorem mxC {a b:Nat}(h:a+b<4611686018427387904):(9223372036854775807<1+((a:Int)+(b:Int)))=False:=by
 simp only[eq_iff_iff,iff_false];omega
theorem encB:∀l:List (BitVec 8),encL l=l.map fun x=>Value.int .u8 x.toNat
 | []=>rfl
 | x::l=>by rw[encL_cons,encB l];rfl
theorem HS.bstr {P:Program}{k:Env→Heap→Prop}{e:Env}{h:Heap}{v:Value}{l:List (BitVec 8)}(R:Rep h v l) (t:List UInt8) (ht:(l.map fun x=>(⟨x⟩:UInt8))=t) (hl:0<l.length) {a:O}{dst:Nat}(ha:a.get e=some v) (K:k (eset e dst (some (.string (Tx t)))) h) :
  (A.ex (some dst) (.bstr a)).wp P k e h:=by
 subst ht
 obtain⟨p,cap,rfl,h1,h2,h3⟩:=Rep_list.1 R
 obtain⟨b,off,vs,rfl,_⟩:=h3 0 hl
 have h4:=repL_enc h3
 refine⟨b,off,l.length,cap,l.map fun x=>⟨x⟩,ha,?_,Fgt.keep K⟩
 have e1:l.length*Ty.sz (BitVec 8)=l.length:=Nat.mul_one _
 rw[e1] at h4
 rw[h4]
 congr 1
 rw[List.map_map]
 exact encB l
theorem u8_small {m:Nat}(h:m<256):IntKind.u8.wrap (m:Int)=(m:Int):=by
 simp only[IntKind.wrap,IntKind.bits,IntKind.signed]
 simp
 omega
theorem c_l16Dec {h:Heap}{n:Int}(h0:0≤n) (h9:n≤9):CallE Tryz.prog fn_spec_l16Dec [.int .i64 n] h (fun u h'=>h.le h'∧u=.string (Tx [dg n])):=by
 obtain⟨m,rfl⟩:∃m:Nat,n=m:=⟨n.toNat,by omega⟩
 refine CallE.gen fun k hk=>EN_spec_l16Dec rfl ?_
 have a1:¬(m:Int) < -9223372036854775807:=by omega
 have a2:¬(m:Int)<0:=by omega
 simp -implicitDefEqProofs (disch:=first|omega|(simp only[LnZ];omega))[wrap64,a1,a2]
 refine wp_count 0 (fun i e h'=>e=[some (.int .i64 m),none,some (.string (Tx []))]∧h'=h) ⟨by simp,rfl⟩ ?_
 rintro J i _ h1 hJ hi ⟨rfl,rfl⟩
 have a3:¬9<(m:Int):=by omega
 have a4:IntKind.u8.wrap (48+(m:Int))=((48+m:Nat):Int):=by rw[← u8_small (m:=48+m) (by omega)];rfl
 have a5:(48+m)%256=48+m:=by omega
 simp -implicitDefEqProofs (disch:=first|omega|(simp only[LnZ];omega))[wrap64,a3,a4]
 refine HS.bls (HS.init (h:=h1)) [BitVec.ofNat 8 (48+m)] (by simp[fillP,setC,reps,encL,Flat.enc,a5]) rfl (by simp[Flat.ok]) (by simp) fun v h2 H=>?_
 simp -implicitDefEqProofs (disch:=omega)[wrap64]
 refine HS.bstr H.rep [dg m] rfl (by simp) rfl ?_
 simp -implicitDefEqProofs (disch:=omega)[wrap64]
 exact RetK.keep (hk _ _ ⟨H.base,by simp⟩)
end Go.Proofs.YtjbjnicobdpdhaaGreatDoor

namespace Go.Proofs.YtjbjnicobdpdhaaGreatDoor
open Go Go.RowKit
theorem cell_plain {W:World}{b off s:Nat}{v:Value}(h:W.cell? ⟨b,off,some s⟩=some v):False:=by
 simp only[World.cell?] at h
 split at h<;>simp at h
theorem cell_hcell {W:World}{b off:Nat}{v:Value}(h:W.cell? ⟨b,off,none⟩=some v):hcell (whole W) b off=some v:=by
 simp only[World.cell?,Option.isSome_none,Bool.false_eq_true,if_false] at h
 simp only[hcell,whole]
 split at h
 ·rename_i hb;rw[hb];exact h
 ·simp at h
theorem texts_of_laid {P:Program}{W:World}{t e:TypeId}{g:Nat}{name:String}{sp:Nat→Bool}{held:Bool}{fuel:Nat}{cs:Array Value}{p:List MemPlace}{L:List (List UInt8)}(hg:P.globalNamed name=some g) (hv:W.var? P name=some cs)
  (ht:P.underlying t=some (.slice e)) (hs:P.underlying e=some .string) (hc:P.cellsOf e=1)
  (hd:DataW.trod (fun _=>()) P W 0 sp held fuel t cs.toList=some (.slice (L.map fun s=>.lit (.string s)) [],p)) (hL:L≠[]) (hL2:L.length<4611686018427387904) :
  ∃w,hload (whole W) (some (.pointer (some ⟨g,0,none⟩))) none=some w∧Rep (whole W) w (L.map Tx):=by
 obtain⟨a,cap,hcs,hle,hel⟩:=open_row ht hc hd
 have hll:(L.map fun s=>(DataW.lit (.string s):DataW Unit)).length=L.length:=List.length_map _
 rw[hll] at hcs hle
 have hpos:0<L.length:=List.length_pos_iff.2 hL
 have key:∀i (hi:i<L.length),W.cell? (a.add i)=some (.string (Tx L[i])):=by
  intro i hi
  obtain⟨v,n,q,h1,h2⟩:=hel i (.lit (.string L[i])) (by rw[List.getElem?_map,List.getElem?_eq_getElem hi];rfl)
  obtain⟨s,h3,h4,_⟩:=DataW.trod_string hs h2
  simp only[List.cons.injEq,and_true] at h3
  simp only[Prod.mk.injEq,DataW.lit.injEq,Lit.string.injEq] at h4
  rw[h1,h3,h4.1,Tx_eta]
 obtain⟨b,off,spot⟩:=a
 have h0:spot=none:=by
  cases spot with
  | none=>rfl
  | some s=>
   have:=key 0 hpos
   simp only[Addr.add,if_true] at this
   exact (cell_plain this).elim
 subst h0
 refine⟨.slice (some ⟨b,off,none⟩) L.length cap,?_,Rep_list.2 ⟨some ⟨b,off,none⟩,cap,by rw[List.length_map],⟨by rw[List.length_map];exact hle,by rw[List.length_map];exact hL2⟩,trivial,fun i hi=>?_⟩⟩
 ·have h1:=World.var?_cell hg hv 0
  have h2:cs[0]? = some (.slice (some ⟨b,off,none⟩) L.length cap):=by
   rw[← Array.getElem?_toList,hcs];rfl
  rw[h2] at h1
  exact cell_hcell h1
 ·have hi':i<L.length:=by simpa using hi
  have h1:=key i hi'
  rw[addr_add0] at h1
  have h2:=cell_hcell h1
  refine⟨b,off,[.string (Tx L[i])],rfl,?_,?_⟩
  ·show hcells (whole W) b (off+i*1) 1=_
   rw[Nat.mul_one]
   simp[hcells,h2]
  ·rw[List.getElem_map];rfl
theorem var_below {P:Program}{n:String}{g:Nat}{W W':World}{cs:Array Value}(hg:P.globalNamed n=some g) (h:W.var? P n=some cs) (hb:Below W.heap.size W W'):W'.var? P n=some cs:=by
 simp only[World.var?,hg,Option.bind_some] at h ⊢
 have hlt:g<W.heap.size:=by
  cases e:W.heap[g]? with
  | none=>rw[e] at h;simp at h
  | some o=>exact (Array.getElem?_eq_some_iff.1 e).1
 rw[hb.block g hlt]
 exact h
theorem post_law1 {H:Type}{enc:TypeId×Value→H}{P:Program}{f:Func}{s:ChangeSpec}{W W':World}{args:Array Value}{ds gs:List (DataW H)}{before:List MemPlace}{name:String}{g:Nat}{tv e:TypeId}(hl:laidOutB P=true) (hvars:s.vars=[name]) (hg:P.globalNamed name=some g)
  (htg:(P.globals[g]?).map (·.type)=some tv) (hts:P.underlying tv=some (.slice e)) (htr:P.readableRec tv=true∧tv<P.types.size) (ht:∀t∈f.params.toList,P.readableRec t=true∧t<P.types.size)
  (hr:∃t,f.resultTypes = #[t]∧P.underlying t=some .bool) (hspec:∀d,gs=[d]→(s.fn H (ds++gs)).results=[.lit (.bool true)]∧(s.fn H (ds++gs)).args=ds∧(s.fn H (ds++gs)).vars=[d])
  (hW:DataW.Whole enc P f.params.toList s.vars false W args.toList ds gs before) (hb:Below W.heap.size W W'):s.post enc P f false true false false W args (.bool true) W':=by
 obtain⟨t,ht1,ht2⟩:=hr
 have hW':=hW
 obtain⟨p,q,hA,hV,rfl,hz,hn⟩:=hW
 rw[hvars] at hV
 obtain⟨g',t',cs,fuel,d,q',rfl,hg',htg',hv,hd,rfl⟩:=Go.ChangeShapes.trodVars_one hV
 obtain rfl:=Option.some.inj (hg.symm.trans hg')
 obtain rfl:=Option.some.inj (htg.symm.trans htg')
 obtain⟨h1,h2,h3⟩:=hspec d rfl
 have hlt:=fun x hx=>hW'.lt x hx
 have hone:∃v,cs.toList=[v]∧v.cells.toList=[v]:=by
  rcases Go.Deep.open_slice hts hd with ⟨h0,_⟩ | ⟨a,len,cap,m,n,D,Pl,h0,_⟩
  ·exact⟨_,h0,rfl⟩
  ·exact⟨_,h0,rfl⟩
 obtain⟨v,hv1,hv2⟩:=hone
 have hd':DataW.Trod enc P W 0 (fun _=>true) true tv v d q':=⟨fuel,by rw[hv2,← hv1];exact hd⟩
 obtain⟨fuel',hd2⟩:=Below.trod hl htr.1 htr.2 hd' hb (fun x hx=>by simpa using hlt x (List.mem_append_right _ (List.mem_append_right _ hx)))
 rw[hv2,← hv1] at hd2
 refine⟨ds,[d],p++(MemPlace.row ⟨g,0,none⟩ cs.size++q'),[],p,MemPlace.row ⟨g,0,none⟩ cs.size++q',hW',?_,?_,?_,World.keptBut_mono (fun x hx=>⟨hx,?_⟩) (kept_below hb (fun x=>x∈p++(MemPlace.row ⟨g,0,none⟩ cs.size++q'))),by simp⟩
 ·rw[h1,ht1]
  exact trodAll_cons_mk (shut_bool ht2 _) Go.ChangeShapes.trodAll_mk0
 ·rw[h2]
  exact trodAll_below hl ht hA hb (fun x hx=>by simpa using hlt x (List.mem_append_left _ hx))
 ·rw[h3,hvars]
  exact Go.ChangeShapes.trodVars_mk1 hg htg (var_below hg hv hb) hd2
 ·rcases List.mem_append.1 hx with h | h
  ·exact .inr (.inl h)
  ·exact .inr (.inr h)
theorem laid_mem {P:Program}{W:World}:∀{l:List (String×DataW Unit)}{ps:List MemPlace},DataW.LaidVars P W l ps→∀{n:String}{d:DataW Unit},(n,d)∈l →
  ∃g t cs fuel p,P.globalNamed n=some g∧(P.globals[g]?).map (·.type)=some t∧W.var? P n=some cs∧DataW.trod (fun _=>()) P W 0 (fun _=>true) false fuel t cs.toList=some (d,p)
 | [],_,_,_,_,h=>by simp at h
 | (n0,d0)::r,ps,h,n,d,hm=>by
  obtain⟨g,t,cs,fuel,p,q,h1,h2,h3,h4,h5,_⟩:=h
  rcases List.mem_cons.1 hm with e | hm
  ·obtain⟨rfl,rfl⟩:=Prod.mk.inj e
   exact⟨g,t,cs,fuel,p,h1,h2,h3,h4⟩
  ·exact laid_mem h5 hm
end Go.Proofs.YtjbjnicobdpdhaaGreatDoor

namespace Go.Proofs.YtjbjnicobdpdhaaGreatDoor
open Go Go.RowKit
theorem handed_both {H:Type}{enc:TypeId×Value→H}{a:Assume}{C:Checked}{os:Os}{f:FuncId}{fn:Func}{s:ChangeSpec}{conds:List PathCond}{apart fresh handsOn again:Bool}{X:World→Array Value→Prop}
  (hX:∀(w w':World) (args:Array Value),w.heap=w'.heap→X w args→X w' args)
  (own:ownKnob C.prog.godebug=none) (started:os.Started) (noInit:C.prog.inits.idxOf? f=none) (hfn:C.prog.funcs[f]? = some fn)
  (witness:∃(w:World) (tape:Tape) (i:Input),w.os=os∧(w.forCall tape i).Shaped C.prog∧i.vars=[]∧Input.okWide C.prog (w.forCall tape i) .any w.heap.size f i ∧
   ((s.pre enc C.prog fn conds apart (w.forCall tape i).memory i.args∧X (w.forCall tape i).memory i.args)∧sizedMet enc C.prog fn (OpenSpec.ofChange s) apart (w.forCall tape i).memory i.args)∧a.holds C.prog (lone (Frame.enter C.prog f i.args .normal) [] (w.forCall tape i)))
  (contract:∀(W:World) (base:Nat) (args:Array Value) (ds gs:List (DataW H)) (before:List MemPlace),
   (∀(j:Nat) t v,fn.params[j]? = some t→args[j]? = some v→Value.okWide C.prog W .any base t v) →
   DataW.Whole enc C.prog fn.params.toList s.vars apart W args.toList ds gs before →
   (DataW.weightsEach C.prog (fn.params.toList++s.plain.varTypes C.prog) (ds++gs)).all (·≤reachBytes)=true→X W args→W.ShapedOpen C.prog →
   Calls C.prog f args W fun e W'=>∃v,e=.returned v∧s.post enc C.prog fn apart fresh handsOn again W args v W') :
  ReturnsInHanded a C os f .any (fun w args=>(s.pre enc C.prog fn conds apart w args∧X w args)∧sizedMet enc C.prog fn (OpenSpec.ofChange s) apart w args) (s.post enc C.prog fn apart fresh handsOn again):=by
 refine returnsInHanded_of_calls own started noInit witness fun w tape i _ hsh _ hok hpre _=>?_
 obtain⟨_,_,_,fn',hfn',_,_,_,_,hval⟩:=hok
 obtain rfl:=Option.some.inj (hfn'.symm.trans hfn)
 obtain⟨⟨⟨ds,gs,before,hw,_⟩,hx⟩,hz⟩:=hpre
 refine (contract (w.forCall tape i) w.heap.size i.args ds gs before hval (DataW.Whole.of_heap (w':=w.forCall tape i) (by rfl) hw) (hz.weights hw) (hX _ _ _ (by rfl) hx) hsh).mono ?_
 rintro e W' ⟨v,rfl,hp⟩
 exact ChangeSpec.post_blind hp
def tk (bs:List UInt8) (r:List UInt8) (bad:Bool):Int×List UInt8×Bool:=if bad=true then (-1,r,true) else match r with
 | []=>(-1,[],true)
 | c::r'=>if Lib.indexByte bs c<0 then (-1,c::r',true) else (Lib.indexByte bs c,r',false)
theorem indexByte_lt:∀{l:List UInt8}{c:UInt8},Lib.indexByte l c<l.length
 | [],c=>by simp[Lib.indexByte]
 | b::l,c=>by
  have ih:=indexByte_lt (l:=l) (c:=c)
  unfold Lib.indexByte
  split
  ·simp only[List.length_cons];omega
  ·split
   ·simp only[List.length_cons];omega
   ·simp only[List.length_cons];omega
theorem tk_rng {bs r:List UInt8}{bad:Bool}:-1≤(tk bs r bad).1∧(tk bs r bad).1<bs.length∧(tk bs r bad).2.1.length≤r.length:=by
 unfold tk
 split
 ·simp only;omega
 ·match r with
  | []=>simp only[List.length_nil];omega
  | c::r=>
   have h1:=indexByte_lt (l:=bs) (c:=c)
   simp only
   split
   ·simp only;omega
   ·simp only[List.length_cons];omega
theorem tk_nn {bs r:List UInt8}{bad:Bool}(h:(tk bs r bad).2.2=false):0≤(tk bs r bad).1:=by
 unfold tk at h ⊢
 split
 ·rename_i hb;rw[if_pos hb] at h;simp at h
 ·rename_i hb;rw[if_neg hb] at h
  match r with
  | []=>simp at h
  | c::r=>
   simp only at h ⊢
   split
   ·rename_i hc;rw[if_pos hc] at h;simp at h
   ·simp only;omega
theorem tk_bad {bs r:List UInt8}:tk bs r true=(-1,r,true):=rfl
def bF:List UInt8:=[48,49,50,51,120,121,122,33,40]
def bS:List UInt8:=[38,124,61,60,43,45]
def bC:List UInt8:=[41]
def ex:Nat→List UInt8→Bool→Exq×List UInt8×Bool
 | 0,r,_=>(Exq.zero,r,true)
 | n+1,r,bad=>
  if (tk bF r bad).2.2=true then (Exq.zero,(tk bF r bad).2.1,true)
  else if (tk bF r bad).1<4 then (.mk 1 (tk bF r bad).1 [],(tk bF r bad).2.1,false)
  else if (tk bF r bad).1<7 then (.mk 2 ((tk bF r bad).1-4) [],(tk bF r bad).2.1,false)
  else if (tk bF r bad).1=7 then (.mk 3 0 [(ex n (tk bF r bad).2.1 false).1],(ex n (tk bF r bad).2.1 false).2)
  else
   (.mk (4+(tk bS (ex n (tk bF r bad).2.1 false).2.1 (ex n (tk bF r bad).2.1 false).2.2).1) 0 [(ex n (tk bF r bad).2.1 false).1,(ex n (tk bS (ex n (tk bF r bad).2.1 false).2.1 (ex n (tk bF r bad).2.1 false).2.2).2.1 (tk bS (ex n (tk bF r bad).2.1 false).2.1 (ex n (tk bF r bad).2.1 false).2.2).2.2).1],
    (tk bC (ex n (tk bS (ex n (tk bF r bad).2.1 false).2.1 (ex n (tk bF r bad).2.1 false).2.2).2.1 (tk bS (ex n (tk bF r bad).2.1 false).2.1 (ex n (tk bF r bad).2.1 false).2.2).2.2).2.1 (ex n (tk bS (ex n (tk bF r bad).2.1 false).2.1 (ex n (tk bF r bad).2.1 false).2.2).2.1 (tk bS (ex n (tk bF r bad).2.1 false).2.1 (ex n (tk bF r bad).2.1 false).2.2).2.2).2.2).2)
theorem ex_len:∀{n:Nat}{r:List UInt8}{bad:Bool},(ex n r bad).2.1.length≤r.length
 | 0,r,bad=>by simp[ex]
 | n+1,r,bad=>by
  have h1:=(tk_rng (bs:=bF) (r:=r) (bad:=bad)).2.2
  have h2:=ex_len (n:=n) (r:=(tk bF r bad).2.1) (bad:=false)
  unfold ex
  split
  ·exact h1
  ·split
   ·exact h1
   ·split
    ·exact h1
    ·split
     ·simp only;omega
     ·simp only
      have h3:=(tk_rng (bs:=bS) (r:=(ex n (tk bF r bad).2.1 false).2.1) (bad:=(ex n (tk bF r bad).2.1 false).2.2)).2.2
      generalize tk bS (ex n (tk bF r bad).2.1 false).2.1 (ex n (tk bF r bad).2.1 false).2.2=q at *
      have h4:=ex_len (n:=n) (r:=q.2.1) (bad:=q.2.2)
      have h5:=(tk_rng (bs:=bC) (r:=(ex n q.2.1 q.2.2).2.1) (bad:=(ex n q.2.1 q.2.2).2.2)).2.2
      omega
theorem tk_at {bs r:List UInt8}{c:UInt8}{i:Int}(h:Lib.indexByte bs c=i) (hi:0≤i):tk bs (c::r) false=(i,r,false):=by
 unfold tk
 rw[if_neg (by simp)]
 simp only[h]
 rw[if_neg (by omega)]
theorem two_eta {α:Type}{l:List α}(h:l.length=2):l=[l[0],l[1]]:=by
 match l,h with
 | [a,b],_=>rfl
theorem ex_fmt:∀{n:Nat}{x:Exq}{r:List UInt8},x.Shp n→ex n (x.fmt++r) false=(x,r,false)
 | 0,_,_,h=>h.elim
 | n+1,x,r,h=>by
  have hn:=h.nd
  have hlo:=hn.lo
  have eta:∀k v l,x.kind=k→x.val=v→x.kids=l→Exq.mk k v l=x:=by
   intro k v l h1 h2 h3
   cases x
   simp only[Exq.kind,Exq.val,Exq.kids] at h1 h2 h3
   rw[h1,h2,h3]
  rcases hn.cases with c | c | c | c
  ·have h3:=hn.hi1 c
   have hi:Lib.indexByte bF (dg x.val)=x.val:=by
    obtain e | e | e | e:x.val=0∨x.val=1∨x.val=2∨x.val=3:=by omega
    all_goals (rw[e];rfl)
   have e:tk bF (x.fmt++r) false=(x.val,r,false):=by
    rw[Exq.fmt1 c];exact tk_at hi hlo
   rw[ex,e]
   simp only[Bool.false_eq_true,if_false]
   rw[if_pos (by omega),eta 1 x.val [] c rfl (hn.k12 (.inl c))]
  ·have h3:=hn.hi2 c
   have hi:Lib.indexByte bF (UInt8.ofNat (120+x.val.toNat))=x.val+4:=by
    obtain e | e | e:x.val=0∨x.val=1∨x.val=2:=by omega
    all_goals (rw[e];rfl)
   have e:tk bF (x.fmt++r) false=(x.val+4,r,false):=by
    rw[Exq.fmt2 c];exact tk_at hi (by omega)
   rw[ex,e]
   simp only[Bool.false_eq_true,if_false]
   rw[if_neg (by omega),if_pos (by omega),eta 2 (x.val+4-4) [] c (by omega) (hn.k12 (.inr c))]
  ·have hl:=hn.k3 c
   have ih:=ex_fmt (n:=n) (r:=r) (h.kid (i:=0) (by omega))
   have e:tk bF (x.fmt++r) false=((7:Int),x.kids[0].fmt++r,false):=by
    rw[Exq.fmt3 c (by omega)];exact tk_at rfl (by decide)
   rw[ex,e]
   simp only[Bool.false_eq_true,if_false,ih]
   rw[if_neg (by decide),if_neg (by decide),if_pos trivial,eta 3 0 [x.kids[0]] c (hn.hi3 (by omega)) (by obtain⟨a,ha⟩:=List.length_eq_one_iff.1 hl;simp[ha])]
  ·have hl:=hn.k4 c.1
   have ih:=ex_fmt (n:=n) (r:=Exq.sg x.kind::(x.kids[1].fmt++41::r)) (h.kid (i:=0) (by omega))
   have ih2:=ex_fmt (n:=n) (r:=41::r) (h.kid (i:=1) (by omega))
   have e:tk bF (x.fmt++r) false=((8:Int),x.kids[0].fmt++Exq.sg x.kind::(x.kids[1].fmt++41::r),false):=by
    rw[Exq.fmt4 c.1 (by omega)]
    have:((40:UInt8)::(x.kids[0].fmt++Exq.sg x.kind::(x.kids[1].fmt++[41])))++r=(40:UInt8)::(x.kids[0].fmt++Exq.sg x.kind::(x.kids[1].fmt++41::r)):=by simp
    rw[this]
    exact tk_at rfl (by decide)
   have hi:Lib.indexByte bS (Exq.sg x.kind)=x.kind-4:=by
    obtain e | e | e | e | e | e:x.kind=4∨x.kind=5∨x.kind=6∨x.kind=7∨x.kind=8∨x.kind=9:=by omega
    all_goals (rw[e];rfl)
   have e2:tk bS (Exq.sg x.kind::(x.kids[1].fmt++41::r)) false=(x.kind-4,x.kids[1].fmt++41::r,false):=tk_at hi (by omega)
   have e3:tk bC (41::r) false=(0,r,false):=tk_at rfl (by decide)
   rw[ex,e]
   simp only[Bool.false_eq_true,if_false,ih,e2,ih2,e3]
   rw[if_neg (by decide),if_neg (by decide),if_neg (by decide),eta (4+(x.kind-4)) 0 [x.kids[0],x.kids[1]] (by omega) (hn.hi3 (by omega)) (two_eta hl)]
end Go.Proofs.YtjbjnicobdpdhaaGreatDoor

namespace Go.Proofs.YtjbjnicobdpdhaaGreatDoor
open Go Go.RowKit Go.Proofs
theorem calle_below {P:Program}{f:FuncId}{fn:Func}{args:List Value}{h:Heap}{v:Value}(hf:P.funcs[f]? = some fn) (hname:(fn.name == "runtime.NumGoroutine")=false) (hb:fn.body.isSome=true)
  (hc:∀w,h.sub w→Calls P f args.toArray w fun e w'=>e=.returned v∧Below w.heap.size w w'):CallE P f args h (fun u h'=>h'=h∧u=v):=by
 intro w hw
 obtain⟨bd,hbd⟩:=Option.isSome_iff_exists.1 hb
 have hname':¬fn.name = "runtime.NumGoroutine":=by simpa using hname
 have hcall:(callFunc f args.toArray).run P w=.ok (.enter f args.toArray) w:=by
  simp[callFunc,hf,hname',hbd]
 rw[hcall]
 refine Calls.mono (hc w hw) ?_
 rintro e w' ⟨rfl,hB⟩
 have hold:∀b o,h b=some o→b<w.heap.size:=fun b o hb=>(Array.getElem?_eq_some_iff.1 (hw b o hb)).1
 refine⟨v,h,rfl,⟨rfl,rfl⟩,fun b o hb=>?_,hB.tape,hB.os,hB.output,hB.size,fun b hb _=>hB.block b hb,fun b _ hn=>hn⟩
 rw[hB.block b (hold b o hb)]
 exact hw b o hb
theorem calle_same {P:Program}{f:FuncId}{fn:Func}{args:List Value}{h:Heap}{v:Value}(hf:P.funcs[f]? = some fn) (hname:(fn.name == "runtime.NumGoroutine")=false) (hb:fn.body.isSome=true)
  (hc:∀w,h.sub w→Calls P f args.toArray w fun e w'=>e=.returned v∧w'=w):CallE P f args h (fun u h'=>h'=h∧u=v):=
 calle_below hf hname hb fun w hw=>(hc w hw).mono fun e w' ⟨h1,h2⟩=>⟨h1,h2▸Go.RowKit.Below.refl _ _⟩
theorem cells_texts {h:Heap}{v:Value}{xs:List ByteArray}(R:Rep h v xs) (hx:xs≠[]):∃b o c,v=.slice (some ⟨b,o,none⟩) xs.length c∧xs.length≤c∧∀w,h.sub w→b<w.heap.size∧∀(j:Nat) x,xs[j]? = some x→w.cell? ⟨b,o+j,none⟩=some (.string x):=by
 have hpos:0<xs.length:=List.length_pos_iff.2 hx
 obtain⟨p,cap,rfl,h1,_,h3⟩:=Rep_list.1 R
 obtain⟨b,off,vs,rfl,_,_⟩:=h3 0 hpos
 have key:∀(j:Nat) x,xs[j]? = some x→hcell h b (off+j)=some (.string x):=by
  intro j x hj
  obtain⟨hj1,hj2⟩:=List.getElem?_eq_some_iff.1 hj
  obtain⟨b',off',vs,hp,hc,hv⟩:=h3 j hj1
  simp only[Option.some.injEq,Addr.mk.injEq,and_true] at hp
  obtain⟨rfl,rfl⟩:=hp
  have hv:vs=[.string xs[j]]:=hv
  rw[hj2] at hv
  subst hv
  simp only[show Ty.sz ByteArray=1 from rfl,Nat.mul_one,hcells] at hc
  split at hc
  ·rename_i v r hv hr
   simp only[Option.some.injEq,List.cons.injEq] at hc
   rw[hv,hc.1]
  ·simp at hc
 refine⟨b,off,cap,rfl,h1.1,fun w hw=>⟨?_,fun j x hj=>hcell_sub hw (key j x hj)⟩⟩
 have e1:=key 0 xs[0] (List.getElem?_eq_getElem hpos)
 have e3:∃o,h b=some o:=by
  unfold hcell at e1
  split at e1
  ·rename_i c el fr hb;exact⟨_,hb⟩
  ·simp at e1
 obtain⟨o,ho⟩:=e3
 exact (Array.getElem?_eq_some_iff.1 (hw b o ho)).1
theorem c_Clone_int {h:Heap}{a:Value}{x:List (Int)}(Ra:Rep h a x) (hs:x.length≤1073741824):CallE Tryz.prog fn_slices_Clone_S_int_int [a] h (fun v h'=>HS h [ow v x] h'):=by
 refine CallE.gen fun k hk=>EN_slices_Clone_S_int_int rfl ?_
 obtain⟨b,hb,hb2⟩:=Ra.isNil
 simp -implicitDefEqProofs (disch:=first|omega|(simp only[LnZ];omega))[wrap64,hb]
 refine IteW.mk (fun h1=>?_) (fun h1=>?_)
 ·simp -implicitDefEqProofs (disch:=omega)[wrap64]
  have h2:x=[]:=hb2 h1
  subst h2
  exact RetK.keep (hk _ _ HS.init.nil_ow)
 ·simp -implicitDefEqProofs (disch:=omega)[wrap64]
  refine HS.init.appPL (α:=Int) (l2:=x) (u:=a) rfl rfl Ra rfl rfl (by omega) fun v h1 H=>?_
  simp -implicitDefEqProofs (disch:=omega)[wrap64]
  exact RetK.keep (hk _ _ H)
theorem c_Clip_int {g h:Heap}{Γ:List HP}{a:Value}{x:List (Int)}(H:HS g (ow a x::Γ) h):CallE Tryz.prog fn_slices_Clip_S_int_int [a] h (fun v h'=>HS g (ow v x::Γ) h'):=by
 refine CallE.gen fun k hk=>EN_slices_Clip_S_int_int rfl ?_
 obtain⟨v',h1,h2⟩:=H.clip (esz:=1) (k:=.i64)
 simp -implicitDefEqProofs (disch:=first|omega|(simp only[LnZ];omega))[wrap64,H.rep.I,h1]
 exact RetK.keep (hk _ _ h2)
theorem c_clone_int {h:Heap}{a:Value}{x:List (Int)}(Ra:Rep h a x) (hs:x.length≤1073741824):CallE Tryz.prog fn_impl_clone_int [a] h (fun v h'=>HS h [ow v x] h'):=by
 refine CallE.gen fun k hk=>EN_impl_clone_int rfl ?_
 simp -implicitDefEqProofs (disch:=omega)[wrap64]
 refine (c_Clone_int Ra hs).go ?_
 intro v h1 H
 simp -implicitDefEqProofs (disch:=omega)[wrap64]
 refine (c_Clip_int H).go ?_
 intro v' h2 H
 simp -implicitDefEqProofs (disch:=omega)[wrap64]
 exact RetK.keep (hk _ _ H)
structure Sta.Ok (s:Sy) (st:Sta):Prop where
 len:st.locs.length=s.procs.length
 vs:VOk st.vals
 lc:∀(i:Nat) (h1:i<st.locs.length) (h2:i<s.procs.length),0≤st.locs[i]∧st.locs[i]<s.procs[i].locs
noncomputable instance instDecStaOk {s:Sy}{st:Sta}:Decidable (st.Ok s):=Classical.propDecidable _
theorem Sta.Ok.d {s:Sy}{st:Sta}(hs:s.Ok) (h:st.Ok s):st.dOk:=by
 refine⟨fun n hn=>?_,fun n hn=>?_⟩
 ·obtain⟨i,hi,rfl⟩:=List.mem_iff_getElem.1 hn
  have hl:=h.len
  have h1:=h.lc i hi (by omega)
  have h2:=(hs.at (i:=i) (by omega)).n4
  omega
 ·have:=h.vs.2 n hn
  omega
theorem Sta.fmt_ok {st:Sta}(h:st.dOk):st.fmt=dgs st.locs++47::dgs st.vals:=by rw[Sta.fmt,if_pos h]
theorem Sta.fmt_spl {st:Sta}(h:st.dOk):spl 47 st.fmt=[dgs st.locs,dgs st.vals]:=by
 rw[Sta.fmt_ok h,spl_app (dgs_no h.1),spl_no (dgs_no h.2)]
def numv (c:UInt8):Int:=if 48≤c.toNat∧c.toNat≤57 then (c.toNat:Int)-48 else -1
theorem numv_dg {n:Int}(h0:0≤n) (h9:n≤9):numv (dg n)=n:=by
 have:=dg_nat h0 h9
 rw[numv,if_pos (by omega),dg_int h0 h9]
theorem lenTx {l:List UInt8}:lenSV (.string (Tx l))=some (.int .i64 l.length):=rfl
theorem idxTx {l:List UInt8}{kd:IntKind}{i:Nat}(h:i<l.length):idxSV (.string (Tx l)) (.int kd (i:Int))=some (.int .u8 ((l[i].toNat:Nat):Int)):=by
 unfold idxSV
 simp only
 rw[if_pos (by omega),Int.toNat_natCast]
 show (l.toArray[i]?).map _=_
 rw[List.getElem?_toArray,List.getElem?_eq_getElem h]
 rfl
theorem idxTx0 {l:List UInt8}{kd:IntKind}(h:0<l.length):idxSV (.string (Tx l)) (.int kd 0)=some (.int .u8 ((l[0].toNat:Nat):Int)):=idxTx (i:=0) h
theorem bndN {d n i:Nat}{k:IntKind}(h:i≤n):bndV d n (some (some (.int k (i:Int))))=some i:=by
 unfold bndV
 simp only
 rw[if_pos ⟨by omega,by omega⟩,Int.toNat_natCast]
theorem slcTx {l:List UInt8}{k k':IntKind}{a b:Nat}(h1:a≤b) (h2:b≤l.length):sliceSV (.string (Tx l)) (some (some (.int k (a:Int)))) (some (some (.int k' (b:Int))))=some (.string (Tx ((l.drop a).take (b-a)))):=by
 unfold sliceSV
 simp only
 rw[bndN (n:=(Tx l).size) h2]
 simp only
 rw[bndN h1]
 simp only
 rw[Tx_ext]
theorem slcTxE {l:List UInt8}{k:IntKind}{a:Nat}(h1:a≤l.length):sliceSV (.string (Tx l)) (some (some (.int k (a:Int)))) none=some (.string (Tx (l.drop a))):=by
 unfold sliceSV
 simp only[bndV]
 rw[if_pos ⟨by omega,by have:(Tx l).size=l.length:=rfl;omega⟩]
 simp only[Int.toNat_natCast]
 rw[Tx_ext,List.take_of_length_le (by have:(Tx l).size=l.length:=rfl;simp)]
theorem Tx_data {l:List UInt8}:(Tx l).data.toList=l:=rfl
attribute [simp] lenTx idxTx idxTx0 Tx_data
def smallV:List UInt8→Int
 | [c]=>numv c
 | _=>-1
theorem smallV_rng {l:List UInt8}:-1≤smallV l∧smallV l≤9:=by
 unfold smallV
 split
 ·unfold numv;split<;>omega
 ·omega
theorem c_small {h:Heap}{l:List UInt8}:CallE Tryz.prog fn_impl_small [.string (Tx l)] h (fun u h'=>h'=h∧u=.int .i64 (smallV l)):=by
 refine CallE.gen fun k hk=>EN_impl_small rfl ?_
 match l with
 | []=>
  simp -implicitDefEqProofs (disch:=omega)[wrap64]
  exact RetK.keep (hk _ _ ⟨rfl,rfl⟩)
 | a::b::r=>
  have h1:¬((r.length:Int)+1+1=1):=by omega
  simp -implicitDefEqProofs (disch:=first|omega|(simp only[LnZ];omega))[wrap64,h1]
  exact RetK.keep (hk _ _ ⟨rfl,rfl⟩)
 | [c]=>
  have hc:=c.toNat_lt
  by_cases h1:c.toNat<48
  ·have h1i:(c.toNat:Int)<48:=by omega
   simp -implicitDefEqProofs (disch:=first|omega|(simp only[LnZ];omega))[wrap64,h1,h1i]
   exact RetK.keep (hk _ _ ⟨rfl,by rw[smallV,numv,if_neg (by omega)]⟩)
  have h1i:¬(c.toNat:Int)<48:=by omega
  by_cases h2:57<c.toNat
  ·have h2i:57<(c.toNat:Int):=by omega
   simp -implicitDefEqProofs (disch:=first|omega|(simp only[LnZ];omega))[wrap64,h1,h1i,h2,h2i]
   exact RetK.keep (hk _ _ ⟨rfl,by rw[smallV,numv,if_neg (by omega)]⟩)
  have h2i:¬57<(c.toNat:Int):=by omega
  have h3:IntKind.u8.wrap ((c.toNat:Int)-48)=((c.toNat-48:Nat):Int):=by rw[← u8_small (m:=c.toNat-48) (by omega)];congr 1;omega
  simp -implicitDefEqProofs (disch:=first|omega|(simp only[LnZ];omega))[wrap64,h1,h1i,h2,h2i,h3]
  exact RetK.keep (hk _ _ ⟨rfl,by rw[smallV,numv,if_pos (by omega)];congr 1;omega⟩)
@[simp] theorem mxZ {e:Int}(h:e<4611686018427387904):(9223372036854775807<e)=False:=by
 simp only[eq_iff_iff,iff_false];omega
theorem slcV {n:Int}(h0:0≤n) (h2:n≤2):sliceSV (.string (Tx [120,121,122])) (some (some (.int .i64 n))) (some (some (.int .i64 (n+1))))=some (.string (Tx [UInt8.ofNat (120+n.toNat)])):=by
 obtain rfl | rfl | rfl:n=0∨n=1∨n=2:=by omega
 all_goals rfl
theorem slcG {n:Int}(h4:4≤n) (h9:n≤9):sliceSV (.string (Tx [32,32,32,32,38,124,61,60,43,45])) (some (some (.int .i64 n))) (some (some (.int .i64 (n+1))))=some (.string (Tx [Exq.sg n])):=by
 obtain rfl | rfl | rfl | rfl | rfl | rfl:n=4∨n=5∨n=6∨n=7∨n=8∨n=9:=by omega
 all_goals rfl
theorem c_l1Sign {h:Heap}{n:Int}(h4:4≤n) (h9:n≤9):CallE Tryz.prog fn_spec_l1Sign [.int .i64 n] h (fun u h'=>h'=h∧u=.string (Tx [Exq.sg n])):=by
 refine CallE.gen fun k hk=>EN_spec_l1Sign rfl ?_
 have e:=slcG h4 h9
 simp -implicitDefEqProofs (disch:=first|omega|(simp only[LnZ];omega))[wrap64,e]
 exact RetK.keep (hk _ _ ⟨rfl,rfl⟩)
theorem c_l1Format:∀(n:Nat) {x:Exq}{h:Heap}{v:Value},x.Shp n→x.nod≤15→Rep h v x→CallE Tryz.prog fn_spec_l1Format [v] h (fun u h'=>h.le h'∧u=.string (Tx x.fmt)):=by
 intro n
 induction n with
 | zero=>intro x h v hs;exact hs.elim
 | succ n ih=>
 intro x h v hs hn R
 obtain⟨wk,rfl,k1,k2,R1⟩:=Rep_Exq.1 R
 have hL:=R1.lt
 have hlo:=hs.1.lo
 refine CallE.gen fun k hk=>EN_spec_l1Format rfl ?_
 rcases hs.nd.cases with c | c | c | c
 ·have h3:=hs.nd.hi1 c
  simp -implicitDefEqProofs (disch:=first|omega|(simp only[LnZ];omega))[wrap64,c]
  refine (c_l16Dec hlo (by omega)).go ?_
  rintro _ h1 ⟨l1,rfl⟩
  simp -implicitDefEqProofs (disch:=omega)[wrap64]
  exact RetK.keep (hk _ _ ⟨l1,by rw[Exq.fmt1 c]⟩)
 ·have h2:=hs.nd.hi2 c
  have e:=slcV hlo h2
  simp -implicitDefEqProofs (disch:=first|omega|(simp only[LnZ];omega))[wrap64,c,e]
  exact RetK.keep (hk _ _ ⟨Heap.le.refl _,by rw[Exq.fmt2 c];simp⟩)
 ·have hl:=hs.nd.k3 c
  have hnn:=Exq.nod_kids1 hl
  obtain⟨u0,hu0,Ru0⟩:=R1.ld (i:=0) (by omega)
  change hload _ (some (elp 3 wk 0)) (some 3)=some u0 at hu0
  have hf:=Exq.fmt_len (hs.kid (i:=0) (by omega))
  have c1:¬x.kind=1:=by omega
  have c2:¬x.kind=2:=by omega
  have e3:=Exq.fmt3 c (by omega)
  simp -implicitDefEqProofs (disch:=first|omega|(simp only[LnZ];omega))[wrap64,c,c1,c2,R1.X (n:=3) rfl,hu0]
  refine (ih (hs.kid (i:=0) (by omega)) (by omega) Ru0).go ?_
  rintro _ h1 ⟨l1,rfl⟩
  generalize x.kids[0].fmt=t at *
  simp -implicitDefEqProofs (disch:=omega)[wrap64]
  exact RetK.keep (hk _ _ ⟨l1,by rw[e3]⟩)
 ·have hl:=hs.nd.k4 c.1
  have hnn:=Exq.nod_kids2 hl
  obtain⟨u0,hu0,Ru0⟩:=R1.ld (i:=0) (by omega)
  change hload _ (some (elp 3 wk 0)) (some 3)=some u0 at hu0
  obtain⟨u1,hu1,Ru1⟩:=R1.ld (i:=1) (by omega)
  change hload _ (some (elp 3 wk 1)) (some 3)=some u1 at hu1
  have hf:=Exq.fmt_len (hs.kid (i:=0) (by omega))
  have hg:=Exq.fmt_len (hs.kid (i:=1) (by omega))
  have c1:¬x.kind=1:=by omega
  have c2:¬x.kind=2:=by omega
  have c3:¬x.kind=3:=by omega
  have e4:=Exq.fmt4 c.1 (by omega)
  simp -implicitDefEqProofs (disch:=first|omega|(simp only[LnZ];omega))[wrap64,c1,c2,c3,R1.X (n:=3) rfl,hu0,hu1]
  refine (ih (hs.kid (i:=0) (by omega)) (by omega) Ru0).go ?_
  rintro _ h1 ⟨l1,rfl⟩
  have hu1:=hload_le l1 hu1
  simp -implicitDefEqProofs (disch:=first|omega|(simp only[LnZ];omega))[wrap64,c1,c2,c3,R1.X (n:=3) rfl,hu1]
  refine (c_l1Sign c.1 c.2).go ?_
  rintro _ _ ⟨rfl,rfl⟩
  simp -implicitDefEqProofs (disch:=first|omega|(simp only[LnZ];omega))[wrap64,c1,c2,c3,R1.X (n:=3) rfl,hu1]
  refine (ih (hs.kid (i:=1) (by omega)) (by omega) (Ru1.le l1)).go ?_
  rintro _ h2 ⟨l2,rfl⟩
  generalize x.kids[0].fmt=t at *
  generalize x.kids[1].fmt=t2 at *
  simp -implicitDefEqProofs (disch:=omega)[wrap64]
  exact RetK.keep (hk _ _ ⟨l1.trans l2,by rw[e4]⟩)
theorem c_l2Line {h:Heap}{v:Value}{e:Ed}{n:Int}(R:Rep h v e) (he:e.Ok n):CallE Tryz.prog fn_spec_l2Line [v] h (fun u h'=>h.le h'∧u=.string (Tx ((Ln.edg e).row++[10]))):=by
 obtain⟨w1,w2,rfl,ok,R1,R2⟩:=Rep_Ed.1 R
 have G1:Rep h (.agg #[.int .i64 e.guard.kind,.int .i64 e.guard.val,w1]) e.guard:=Rep_Exq.2 ⟨w1,rfl,ok.gk,ok.gv,R1⟩
 have G2:Rep h (.agg #[.int .i64 e.value.kind,.int .i64 e.value.val,w2]) e.value:=Rep_Exq.2 ⟨w2,rfl,ok.vk,ok.vv,R2⟩
 have hf0:=he.f0
 have hf1:=he.f1
 have ht0:=he.t0
 have ht1:=he.t1
 have hn4:=he.n4
 have hs0:=he.s0
 have hs1:=he.s1
 have hv1:=he.v1
 have hgl:=he.gd.fmt_len
 refine CallE.gen fun k hk=>EN_spec_l2Line rfl ?_
 simp -implicitDefEqProofs (disch:=first|omega|(simp only[LnZ];omega))[wrap64,Ed.cs]
 refine (c_l16Dec hf0 (by omega)).go ?_
 rintro _ h1 ⟨l1,rfl⟩
 simp -implicitDefEqProofs (disch:=first|omega|(simp only[LnZ];omega))[wrap64,Ed.cs]
 refine (c_l16Dec ht0 (by omega)).go ?_
 rintro _ h2 ⟨l2,rfl⟩
 simp -implicitDefEqProofs (disch:=first|omega|(simp only[LnZ];omega))[wrap64,Ed.cs]
 refine (c_l1Format _ he.gd.1 he.gd.2 (G1.le (l1.trans l2))).go ?_
 rintro _ h3 ⟨l3,rfl⟩
 have l3:=(l1.trans l2).trans l3
 have hrow:(Ln.edg e).row++[10]=[101,100,103,101,32]++(dg e.frm::32::dg e.to::32::(e.guard.fmt++32::(e.asg++32::(syn e.sync++[10])))):=by
  simp[Ln.row,Ln.ws,jn,wEdg]
 rw[hrow] at hk
 generalize e.guard.fmt=t at *
 by_cases q1:e.var<0
 ·have ya:e.asg=[45]:=by rw[Ed.asg,if_pos q1]
  by_cases s1:e.sync<0
  ·have y1:syn e.sync=[63,dg (-e.sync)]:=by rw[syn,if_neg (by omega),if_pos s1]
   have s2:¬0<e.sync:=by omega
   simp -implicitDefEqProofs (disch:=first|omega|(simp only[LnZ];omega))[wrap64,Ed.cs,q1,s1,s2]
   refine (c_l16Dec (n:=-e.sync) (by omega) (by omega)).go ?_
   rintro _ h4 ⟨l4,rfl⟩
   simp -implicitDefEqProofs (disch:=first|omega|(simp only[LnZ];omega))[wrap64,Ed.cs]
   exact RetK.keep (hk _ _ ⟨l3.trans l4,by simp[ya,y1]⟩)
  by_cases s2:0<e.sync
  ·have y1:syn e.sync=[33,dg e.sync]:=by rw[syn,if_pos s2]
   simp -implicitDefEqProofs (disch:=first|omega|(simp only[LnZ];omega))[wrap64,Ed.cs,q1,s1,s2]
   refine (c_l16Dec (n:=e.sync) (by omega) (by omega)).go ?_
   rintro _ h4 ⟨l4,rfl⟩
   simp -implicitDefEqProofs (disch:=first|omega|(simp only[LnZ];omega))[wrap64,Ed.cs]
   exact RetK.keep (hk _ _ ⟨l3.trans l4,by simp[ya,y1]⟩)
  ·have y1:syn e.sync=[45]:=by rw[syn,if_neg s2,if_neg s1]
   simp -implicitDefEqProofs (disch:=first|omega|(simp only[LnZ];omega))[wrap64,Ed.cs,q1,s1,s2]
   exact RetK.keep (hk _ _ ⟨l3,by simp[ya,y1]⟩)
 ·have ya:e.asg=UInt8.ofNat (120+e.var.toNat)::58::61::e.value.fmt:=by rw[Ed.asg,if_neg q1]
  have hvo:e.value.Ok:=by
   rcases he.vl with ⟨_,h⟩ | ⟨h,_⟩
   ·exact h
   ·exact absurd h q1
  have hvl:=hvo.fmt_len
  have ex:=slcV (n:=e.var) (by omega) hv1
  simp -implicitDefEqProofs (disch:=first|omega|(simp only[LnZ];omega))[wrap64,Ed.cs,q1,ex]
  refine (c_l1Format _ hvo.1 hvo.2 (G2.le l3)).go ?_
  rintro _ h3 ⟨l3',rfl⟩
  have l3:=l3.trans l3'
  generalize e.value.fmt=t2 at *
  by_cases s1:e.sync<0
  ·have y1:syn e.sync=[63,dg (-e.sync)]:=by rw[syn,if_neg (by omega),if_pos s1]
   have s2:¬0<e.sync:=by omega
   simp -implicitDefEqProofs (disch:=first|omega|(simp only[LnZ];omega))[wrap64,Ed.cs,q1,s1,s2]
   refine (c_l16Dec (n:=-e.sync) (by omega) (by omega)).go ?_
   rintro _ h4 ⟨l4,rfl⟩
   simp -implicitDefEqProofs (disch:=first|omega|(simp only[LnZ];omega))[wrap64,Ed.cs]
   exact RetK.keep (hk _ _ ⟨l3.trans l4,by simp[ya,y1]⟩)
  by_cases s2:0<e.sync
  ·have y1:syn e.sync=[33,dg e.sync]:=by rw[syn,if_pos s2]
   simp -implicitDefEqProofs (disch:=first|omega|(simp only[LnZ];omega))[wrap64,Ed.cs,q1,s1,s2]
   refine (c_l16Dec (n:=e.sync) (by omega) (by omega)).go ?_
   rintro _ h4 ⟨l4,rfl⟩
   simp -implicitDefEqProofs (disch:=first|omega|(simp only[LnZ];omega))[wrap64,Ed.cs]
   exact RetK.keep (hk _ _ ⟨l3.trans l4,by simp[ya,y1]⟩)
  ·have y1:syn e.sync=[45]:=by rw[syn,if_neg s2,if_neg s1]
   simp -implicitDefEqProofs (disch:=first|omega|(simp only[LnZ];omega))[wrap64,Ed.cs,q1,s1,s2]
   exact RetK.keep (hk _ _ ⟨l3,by simp[ya,y1]⟩)
theorem jn_flat {c:UInt8}:∀{w:List UInt8}{ws:List (List UInt8)},jn c (w::ws)=w++(ws.map fun x=>c::x).flatten
 | w,[]=>by simp[jn]
 | w,x::r=>by rw[jn_cons (by simp),jn_flat];simp
theorem row_sys {l:List Int}:(Ln.sys l).row++[10]=wSys++((l.map fun n=>[32,dg n]).flatten++[10]):=by
 rw[Ln.row,Ln.ws,jn_flat,List.map_map,List.append_assoc]
 rfl
theorem rows_one {x:Ln}:rows [x]=x.row++[10]:=by simp[rows]
theorem rows_snoc {l:List Ln}{x:Ln}:rows (l++[x])=rows l++(x.row++[10]):=by rw[rows_app,rows_one]
theorem take_flat {α β:Type}{f:α→List β}{l:List α}{i:Nat}(h:i<l.length):(l.take (i+1)).flatMap f=(l.take i).flatMap f++f l[i]:=by
 rw[List.take_add_one,List.getElem?_eq_getElem h,List.flatMap_append];simp only[Option.toList_some,List.flatMap_cons,List.flatMap_nil,List.append_nil]
theorem take_map1 {α β:Type}{f:α→β}{l:List α}{i:Nat}(h:i<l.length):(l.take (i+1)).map f=(l.take i).map f++[f l[i]]:=by
 rw[List.take_add_one,List.getElem?_eq_getElem h,List.map_append];rfl
theorem c_spec_FormatSystem {h:Heap}{v:Value}{s:Sy}(R:Rep h v s):CallE Tryz.prog fn_spec_FormatSystem [v] h (fun u h'=>h.le h'∧u=.string (Tx (if s.Ok then s.fmt else []))):=by
 have FS:=R.aSy
 have R0:=R
 obtain⟨v1,v2,rfl,R1,R2'⟩:=Rep_Sy.1 R
 refine CallE.gen fun k hk=>EN_spec_FormatSystem rfl ?_
 simp -implicitDefEqProofs (disch:=first|omega|(simp only[LnZ];omega))[wrap64,FS]
 refine (c_spec_SystemValid R0).go ?_
 rintro _ h ⟨rfl,rfl⟩
 by_cases hs:s.Ok
 case neg=>
  simp -implicitDefEqProofs (disch:=first|omega|(simp only[LnZ];omega))[wrap64,hs]
  exact RetK.keep (hk _ _ ⟨Heap.le.refl _,by rw[if_neg hs]⟩)
 rw[if_pos hs] at hk
 have hil:=hs.vs.len
 have hp3:=hs.p3
 simp -implicitDefEqProofs (disch:=first|omega|(simp only[LnZ];omega))[wrap64,hs]
 refine wp_count s.init.length (fun i e h'=>∃o:List UInt8,e=[none,some (.agg #[v1,v2]),none,some (.string (Tx o)),some (.int .i64 i),none,none]∧h.le h'∧o=wSys++((s.init.take i).map fun n=>[32,dg n]).flatten∧o.length=6+2*i) ⟨wSys,by simp[wSys],Heap.le.refl _,by simp,rfl⟩ ?_
 rintro J i _ h1 hJ hi ⟨o,rfl,l1,ho,hol⟩
 have R1':=R1.le l1
 simp -implicitDefEqProofs (disch:=first|omega|(simp only[LnZ];omega))[wrap64,R1'.len]
 refine IteW.mk (fun hlt=>?_) (fun hge=>?_)
 ·have hix:i<s.init.length:=by omega
  have hv:=hs.vs.at hix
  simp -implicitDefEqProofs (disch:=first|omega|(simp only[LnZ];omega))[wrap64,R1'.I]
  refine (c_l16Dec hv.1 (by omega)).go ?_
  rintro _ h2 ⟨l2,rfl⟩
  simp -implicitDefEqProofs (disch:=omega)[wrap64]
  refine hJ _ _ hix ⟨o++[32,dg s.init[i]],by simp,l1.trans l2,?_,by simp;omega⟩
  rw[take_map1 hix,List.flatten_append,ho];simp
 obtain rfl:i=s.init.length:=by omega
 rw[List.take_length] at ho
 have ho1:o++[10]=rows [.sys s.init]:=by rw[rows_one,row_sys,ho,List.append_assoc]
 simp -implicitDefEqProofs (disch:=omega)[wrap64]
 refine wp_count s.procs.length (fun i e h'=>∃o:List UInt8,e=[none,some (.agg #[v1,v2]),none,some (.string (Tx o)),none,some (.int .i64 i),none]∧h.le h'∧o=rows (.sys s.init::(s.procs.take i).flatMap Pr.lns)∧o.length≤1000*(i+1)) ⟨o++[10],by simp,l1,by simpa using ho1,by simp;omega⟩ ?_
 clear hJ
 rintro J i _ h1 hJ hi ⟨o,rfl,l1,ho,hol⟩
 have R2:=R2'.le l1
 simp -implicitDefEqProofs (disch:=first|omega|(simp only[LnZ];omega))[wrap64,R2.len]
 refine IteW.mk (fun hlt=>?_) (fun hge=>?_)
 ·have hix:i<s.procs.length:=by omega
  have hP:=hs.at hix
  obtain⟨u,hu,Ru⟩:=R2.ld hix
  change hload _ (some (elp 2 v2 i)) (some 2)=some u at hu
  obtain⟨we,rfl,kl,R3⟩:=Rep_Pr.1 Ru
  have hH:=hld_parts (cs:=[.int .i64 s.procs[i].locs,we]) hu
  have hn1:=hP.n1
  have hn4:=hP.n4
  have hel:=hP.el
  simp -implicitDefEqProofs (disch:=first|omega|(simp only[LnZ];omega))[wrap64,R2.X (n:=2) rfl,hH.1,hH.2.2.1]
  refine (c_l16Dec (n:=s.procs[i].locs) (by omega) (by omega)).go ?_
  rintro _ h2 ⟨l2,rfl⟩
  simp -implicitDefEqProofs (disch:=omega)[wrap64]
  refine wp_count s.procs[i].edges.length (fun k e h'=>∃o':List UInt8,e=[none,some (.agg #[v1,v2]),none,some (.string (Tx o')),none,some (.int .i64 i),some (.int .i64 k)]∧h1.le h'∧o'=rows (.sys s.init::(s.procs.take i).flatMap Pr.lns++.prc s.procs[i].locs::(s.procs[i].edges.take k).map .edg)∧o'.length≤1000*(i+1)+121*(k+1)) ⟨_,rfl,l2,?_,by simp;omega⟩ ?_
  ·rw[List.take_zero,List.map_nil,rows_snoc,← ho]
   simp[Ln.row,Ln.ws,jn,wPrc]
  rintro I k _ h3 hI hk2 ⟨o',rfl,l3,ho',hol'⟩
  have hu3:=hload_le l3 hu
  have hH:=hld_parts (cs:=[.int .i64 s.procs[i].locs,we]) hu3
  have R4:=R3.le l3
  have R2:=R2.le l3
  simp -implicitDefEqProofs (disch:=first|omega|(simp only[LnZ];omega))[wrap64,R2.X (n:=2) rfl,hH.1,hH.2.2.1,R4.len]
  refine IteW.mk (fun hlt=>?_) (fun hge=>?_)
  ·have hkx:k<s.procs[i].edges.length:=by omega
   have hE:=hP.at hkx
   obtain⟨u2,hu2,Ru2⟩:=R4.ld hkx
   change hload _ (some (elp 10 we k)) (some 10)=some u2 at hu2
   simp -implicitDefEqProofs (disch:=first|omega|(simp only[LnZ];omega))[wrap64,R2.X (n:=2) rfl,hH.1,hH.2.2.1,R4.X (n:=10) rfl,hu2]
   refine (c_l2Line Ru2 hE).go ?_
   rintro _ h4 ⟨l4,rfl⟩
   have hrl:=Ln.row_len (x:=.edg s.procs[i].edges[k]) ⟨_,hE⟩
   generalize hrw:(Ln.edg s.procs[i].edges[k]).row=r at *
   simp -implicitDefEqProofs (disch:=omega)[wrap64]
   refine hI _ _ hkx ⟨o'++(r++[10]),by simp,l3.trans l4,?_,by simp;omega⟩
   have e:(Ln.sys s.init::(s.procs.take i).flatMap Pr.lns++.prc s.procs[i].locs::(s.procs[i].edges.take (k+1)).map .edg)=(Ln.sys s.init::(s.procs.take i).flatMap Pr.lns++.prc s.procs[i].locs::(s.procs[i].edges.take k).map .edg)++[.edg s.procs[i].edges[k]]:=by rw[take_map1 hkx];simp only[List.cons_append,List.append_assoc]
   rw[e,rows_snoc,← ho',hrw]
  ·obtain rfl:k=s.procs[i].edges.length:=by omega
   rw[List.take_length] at ho'
   simp -implicitDefEqProofs (disch:=omega)[wrap64]
   refine hJ _ _ hix ⟨o',by simp,l1.trans l3,?_,by omega⟩
   rw[take_flat hix,ho']
   rfl
 ·obtain rfl:i=s.procs.length:=by omega
  rw[List.take_length] at ho
  simp -implicitDefEqProofs (disch:=omega)[wrap64]
  exact RetK.keep (hk _ _ ⟨l1,by rw[ho];rfl⟩)
end Go.Proofs.YtjbjnicobdpdhaaGreatDoor

namespace Go.Proofs.YtjbjnicobdpdhaaGreatDoor
open Go Go.Shelf
def sh_lays156_ren:Ren:=⟨fun | 156=>67 | 165=>101 | 166=>102 | 169=>103 | 240=>125 | 241=>126 | 276=>140 | 277=>141 | n=>n,fun | 31=>37 | 9=>9 | 3=>3 | 4=>4 | 0=>0 | 20=>20 | 72=>119 | 76=>123 | 70=>117 | 37=>31 | 75=>122 | 127=>135 | 164=>149 | 5=>5 | 80=>62 | n=>n,fun | n=>n⟩
theorem sh_lays156:Go.Proofs.Lays.n156 Tryz.prog sh_lays156_ren:={
 mixed:=by kernel_rfl
 f156:=Tryz.func67.trans (congrArg some (by kernel_rfl))
 f165:=Tryz.func101.trans (congrArg some (by kernel_rfl))
 f166:=Tryz.func102.trans (congrArg some (by kernel_rfl))
 f169:=Tryz.func103.trans (congrArg some (by kernel_rfl))
 f240:=Tryz.func125.trans (congrArg some (by kernel_rfl))
 f241:=Tryz.func126.trans (congrArg some (by kernel_rfl))
 f276:=Tryz.func140.trans (congrArg some (by kernel_rfl))
 f277:=Tryz.func141.trans (congrArg some (by kernel_rfl))
 t0:=Tryz.underlying0
 a0:=Tryz.isAgg0
 z0:=Tryz.sizeOf0
 v0:=Tryz.zeroValue0
 t3:=Tryz.underlying3
 a3:=Tryz.isAgg3
 z3:=Tryz.sizeOf3
 v3:=Tryz.zeroValue3
 t4:=Tryz.underlying4
 a4:=Tryz.isAgg4
 z4:=Tryz.sizeOf4
 v4:=Tryz.zeroValue4
 t9:=Tryz.underlying9
 a9:=Tryz.isAgg9
 z9:=Tryz.sizeOf9
 v9:=Tryz.zeroValue9
 t20:=Tryz.underlying20
 a20:=Tryz.isAgg20
 z20:=Tryz.sizeOf20
 v20:=Tryz.zeroValue20
 t31:=Tryz.underlying37
 a31:=Tryz.isAgg37
 z31:=Tryz.sizeOf37
 v31:=Tryz.zeroValue37
 t37:=Tryz.underlying31
 a37:=Tryz.isAgg31
 z37:=Tryz.sizeOf31
 v37:=Tryz.zeroValue31
 t70:=Tryz.underlying117
 a70:=Tryz.isAgg117
 z70:=Tryz.sizeOf117
 v70:=Tryz.zeroValue117
 t72:=Tryz.underlying119
 a72:=Tryz.isAgg119
 z72:=Tryz.sizeOf119
 v72:=Tryz.zeroValue119
 t75:=Tryz.underlying122
 a75:=Tryz.isAgg122
 z75:=Tryz.sizeOf122
 v75:=Tryz.zeroValue122
 t76:=Tryz.underlying123
 a76:=Tryz.isAgg123
 z76:=Tryz.sizeOf123
 v76:=Tryz.zeroValue123
 t127:=Tryz.underlying135
 a127:=Tryz.isAgg135
 z127:=Tryz.sizeOf135
 v127:=Tryz.zeroValue135
 t164:=Tryz.underlying149
 a164:=Tryz.isAgg149
 z164:=Tryz.sizeOf149
 v164:=Tryz.zeroValue149 }
theorem sh_Builder_Extra_156:Builder.Extra Tryz.prog sh_lays156_ren:={
 sizeBuilder:=by kernel_rfl
 liesBuilder:=by kernel_rfl
 t5:=Tryz.underlying5
 a5:=Tryz.isAgg5
 z5:=Tryz.sizeOf5
 v5:=Tryz.zeroValue5
 infoByte:=by kernel_rfl
 cellsByte:=by kernel_rfl
 sizeByte:=by kernel_rfl
 neB5:=by decide }
open Go.RowKit in
theorem sh_strings_Join (bk o c:Nat) (xs:List ByteArray) (sep:ByteArray) (w:World) (hcells:∀(j:Nat) x,xs[j]? = some x→w.cell? ⟨bk,o+j,none⟩=some (.string x)) (hbk:bk<w.heap.size) (hN:xs.length≤140737488355328) (hcap:xs.length≤c) (hlen:(Lib.join (xs.map (·.data.toList)) sep.data.toList).length≤140737488355328) :
  Calls Tryz.prog 67 #[.slice (some ⟨bk,o,none⟩) xs.length c,.string sep] w fun e w'=>e=.returned (.string ⟨(Lib.join (xs.map (·.data.toList)) sep.data.toList).toArray⟩)∧Below w.heap.size w w':=Any.strings_Join sh_lays156 sh_Builder_Extra_156 bk o c xs sep w hcells hbk hN hcap hlen
def sh_lays137_ren:Ren:=⟨fun | 137=>134 | 217=>115 | 266=>136 | n=>n,fun | 9=>9 | 5=>5 | 3=>3 | n=>n,fun | n=>n⟩
theorem sh_lays137:Go.Proofs.Lays.n137 Tryz.prog sh_lays137_ren:={
 mixed:=by kernel_rfl
 f137:=Tryz.func134.trans (congrArg some (by kernel_rfl))
 f217:=Tryz.func115.trans (congrArg some (by kernel_rfl))
 f266:=Tryz.func136.trans (congrArg some (by kernel_rfl))
 t3:=Tryz.underlying3
 a3:=Tryz.isAgg3
 z3:=Tryz.sizeOf3
 v3:=Tryz.zeroValue3
 t5:=Tryz.underlying5
 a5:=Tryz.isAgg5
 z5:=Tryz.sizeOf5
 v5:=Tryz.zeroValue5
 t9:=Tryz.underlying9
 a9:=Tryz.isAgg9
 z9:=Tryz.sizeOf9
 v9:=Tryz.zeroValue9 }
open Go.RowKit in
theorem sh_strings_IndexByte (s:ByteArray) (c:Int) (w:World) :
  Calls Tryz.prog 134 #[.string s,.int .u8 c] w fun e w'=>e=.returned (.int .i64 (Lib.indexByte s.data.toList c.toNat.toUInt8))∧w'=w:=Any.strings_IndexByte sh_lays137 s c w
def sh_lays143_ren:Ren:=⟨fun | 143=>53 | 219=>84 | 217=>115 | 225=>116 | 224=>117 | 267=>118 | 266=>136 | 314=>137 | n=>n,fun | 9=>9 | 3=>3 | 4=>4 | 5=>5 | 46=>131 | 146=>147 | 51=>146 | n=>n,fun | 1=>1 | n=>n⟩
theorem sh_lays143:Go.Proofs.Lays.n143 Tryz.prog sh_lays143_ren:={
 mixed:=by kernel_rfl
 f143:=Tryz.func53.trans (congrArg some (by kernel_rfl))
 f217:=Tryz.func115.trans (congrArg some (by kernel_rfl))
 f219:=Tryz.func84.trans (congrArg some (by kernel_rfl))
 f224:=Tryz.func117.trans (congrArg some (by kernel_rfl))
 f225:=Tryz.func116.trans (congrArg some (by kernel_rfl))
 f266:=Tryz.func136.trans (congrArg some (by kernel_rfl))
 f267:=Tryz.func118.trans (congrArg some (by kernel_rfl))
 f314:=Tryz.func137.trans (congrArg some (by kernel_rfl))
 t3:=Tryz.underlying3
 a3:=Tryz.isAgg3
 z3:=Tryz.sizeOf3
 v3:=Tryz.zeroValue3
 t4:=Tryz.underlying4
 a4:=Tryz.isAgg4
 z4:=Tryz.sizeOf4
 v4:=Tryz.zeroValue4
 t5:=Tryz.underlying5
 a5:=Tryz.isAgg5
 z5:=Tryz.sizeOf5
 v5:=Tryz.zeroValue5
 t9:=Tryz.underlying9
 a9:=Tryz.isAgg9
 z9:=Tryz.sizeOf9
 v9:=Tryz.zeroValue9
 t46:=Tryz.underlying131
 a46:=Tryz.isAgg131
 z46:=Tryz.sizeOf131
 v46:=Tryz.zeroValue131
 t51:=Tryz.underlying146
 a51:=Tryz.isAgg146
 z51:=Tryz.sizeOf146
 v51:=Tryz.zeroValue146
 t146:=Tryz.underlying147
 a146:=Tryz.isAgg147
 z146:=Tryz.sizeOf147
 v146:=Tryz.zeroValue147
 g1:=by kernel_rfl }
open Go.RowKit Go.Lib in
theorem sh_strings_Index (s sub:ByteArray) (m:Int) (w:World) (hs:s.size<4294967281) (hm:w.cell? ⟨1,0,none⟩=some (.int .i64 m)) :
  Calls Tryz.prog 53 #[.string s,.string sub] w fun e w'=>e=.returned (.int .i64 (Lib.index s.data.toList sub.data.toList))∧w'=w:=Any.strings_Index sh_lays143 s sub m w hs hm
def sh_lays145_ren:Ren:=⟨fun | 145=>52 | 220=>83 | 219=>84 | 217=>115 | 225=>116 | 224=>117 | 267=>118 | 266=>136 | 314=>137 | n=>n,fun | 9=>9 | 4=>4 | 59=>78 | 3=>3 | 5=>5 | 46=>131 | 146=>147 | 51=>146 | n=>n,fun | 1=>1 | n=>n⟩
theorem sh_lays145:Go.Proofs.Lays.n145 Tryz.prog sh_lays145_ren:={
 mixed:=by kernel_rfl
 f145:=Tryz.func52.trans (congrArg some (by kernel_rfl))
 f217:=Tryz.func115.trans (congrArg some (by kernel_rfl))
 f219:=Tryz.func84.trans (congrArg some (by kernel_rfl))
 f220:=Tryz.func83.trans (congrArg some (by kernel_rfl))
 f224:=Tryz.func117.trans (congrArg some (by kernel_rfl))
 f225:=Tryz.func116.trans (congrArg some (by kernel_rfl))
 f266:=Tryz.func136.trans (congrArg some (by kernel_rfl))
 f267:=Tryz.func118.trans (congrArg some (by kernel_rfl))
 f314:=Tryz.func137.trans (congrArg some (by kernel_rfl))
 t3:=Tryz.underlying3
 a3:=Tryz.isAgg3
 z3:=Tryz.sizeOf3
 v3:=Tryz.zeroValue3
 t4:=Tryz.underlying4
 a4:=Tryz.isAgg4
 z4:=Tryz.sizeOf4
 v4:=Tryz.zeroValue4
 t5:=Tryz.underlying5
 a5:=Tryz.isAgg5
 z5:=Tryz.sizeOf5
 v5:=Tryz.zeroValue5
 t9:=Tryz.underlying9
 a9:=Tryz.isAgg9
 z9:=Tryz.sizeOf9
 v9:=Tryz.zeroValue9
 t46:=Tryz.underlying131
 a46:=Tryz.isAgg131
 z46:=Tryz.sizeOf131
 v46:=Tryz.zeroValue131
 t51:=Tryz.underlying146
 a51:=Tryz.isAgg146
 z51:=Tryz.sizeOf146
 v51:=Tryz.zeroValue146
 t59:=Tryz.underlying78
 a59:=Tryz.isAgg78
 z59:=Tryz.sizeOf78
 v59:=Tryz.zeroValue78
 t146:=Tryz.underlying147
 a146:=Tryz.isAgg147
 z146:=Tryz.sizeOf147
 v146:=Tryz.zeroValue147
 g1:=by kernel_rfl }
open Go.RowKit Go.Lib in
theorem sh_strings_Cut (s sep:ByteArray) (m:Int) (w:World) (hs:s.size<4294967281) (hm:w.cell? ⟨1,0,none⟩=some (.int .i64 m)) :
  Calls Tryz.prog 52 #[.string s,.string sep] w fun e w'=>e=.returned (.tuple #[.string ⟨(Lib.cut s.data.toList sep.data.toList).1.toArray⟩,.string ⟨(Lib.cut s.data.toList sep.data.toList).2.1.toArray⟩,.bool (Lib.cut s.data.toList sep.data.toList).2.2])∧∃n,w'=w.drewN n:=Any.strings_Cut sh_lays145 s sep m w hs hm
def sh_lays102_ren:Ren:=⟨fun | 102=>20 | 209=>50 | 207=>80 | n=>n,fun | 9=>9 | 4=>4 | 3=>3 | n=>n,fun | n=>n⟩
theorem sh_lays102:Go.Proofs.Lays.n102 Tryz.prog sh_lays102_ren:={
 mixed:=by kernel_rfl
 f102:=Tryz.func20.trans (congrArg some (by kernel_rfl))
 f207:=Tryz.func80.trans (congrArg some (by kernel_rfl))
 f209:=Tryz.func50.trans (congrArg some (by kernel_rfl))
 t3:=Tryz.underlying3
 a3:=Tryz.isAgg3
 z3:=Tryz.sizeOf3
 v3:=Tryz.zeroValue3
 t4:=Tryz.underlying4
 a4:=Tryz.isAgg4
 z4:=Tryz.sizeOf4
 v4:=Tryz.zeroValue4
 t9:=Tryz.underlying9
 a9:=Tryz.isAgg9
 z9:=Tryz.sizeOf9
 v9:=Tryz.zeroValue9 }
open Go.RowKit Go.Lib in
theorem sh_strings_TrimSuffix (s p:ByteArray) (w:World) (hs:s.size≤9223372036854775807) :
  Calls Tryz.prog 20 #[.string s,.string p] w fun e w'=>e=.returned (.string ⟨(Lib.trimSuffix s.data.toList p.data.toList).toArray⟩)∧w'=w:=Any.strings_TrimSuffix sh_lays102 s p w hs
def sh_lays146_ren:Ren:=⟨fun | 146=>19 | 221=>49 | 268=>78 | 138=>79 | 143=>53 | 195=>110 | 197=>111 | 218=>112 | 219=>84 | 260=>133 | 217=>115 | 225=>116 | 224=>117 | 267=>118 | 266=>136 | 314=>137 | n=>n,fun | 9=>9 | 31=>37 | 3=>3 | 4=>4 | 0=>0 | 105=>127 | 21=>21 | 5=>5 | 46=>131 | 119=>156 | 139=>159 | 138=>158 | 146=>147 | 51=>146 | n=>n,fun | 1=>1 | 3=>3 | 4=>4 | n=>n⟩
theorem sh_lays146:Go.Proofs.Lays.n146 Tryz.prog sh_lays146_ren:={
 mixed:=by kernel_rfl
 f138:=Tryz.func79.trans (congrArg some (by kernel_rfl))
 f143:=Tryz.func53.trans (congrArg some (by kernel_rfl))
 f146:=Tryz.func19.trans (congrArg some (by kernel_rfl))
 f195:=Tryz.func110.trans (congrArg some (by kernel_rfl))
 f197:=Tryz.func111.trans (congrArg some (by kernel_rfl))
 f217:=Tryz.func115.trans (congrArg some (by kernel_rfl))
 f218:=Tryz.func112.trans (congrArg some (by kernel_rfl))
 f219:=Tryz.func84.trans (congrArg some (by kernel_rfl))
 f221:=Tryz.func49.trans (congrArg some (by kernel_rfl))
 f224:=Tryz.func117.trans (congrArg some (by kernel_rfl))
 f225:=Tryz.func116.trans (congrArg some (by kernel_rfl))
 f260:=Tryz.func133.trans (congrArg some (by kernel_rfl))
 f266:=Tryz.func136.trans (congrArg some (by kernel_rfl))
 f267:=Tryz.func118.trans (congrArg some (by kernel_rfl))
 f268:=Tryz.func78.trans (congrArg some (by kernel_rfl))
 f314:=Tryz.func137.trans (congrArg some (by kernel_rfl))
 t0:=Tryz.underlying0
 a0:=Tryz.isAgg0
 z0:=Tryz.sizeOf0
 v0:=Tryz.zeroValue0
 t3:=Tryz.underlying3
 a3:=Tryz.isAgg3
 z3:=Tryz.sizeOf3
 v3:=Tryz.zeroValue3
 t4:=Tryz.underlying4
 a4:=Tryz.isAgg4
 z4:=Tryz.sizeOf4
 v4:=Tryz.zeroValue4
 t5:=Tryz.underlying5
 a5:=Tryz.isAgg5
 z5:=Tryz.sizeOf5
 v5:=Tryz.zeroValue5
 t9:=Tryz.underlying9
 a9:=Tryz.isAgg9
 z9:=Tryz.sizeOf9
 v9:=Tryz.zeroValue9
 t21:=Tryz.underlying21
 a21:=Tryz.isAgg21
 z21:=Tryz.sizeOf21
 v21:=Tryz.zeroValue21
 t31:=Tryz.underlying37
 a31:=Tryz.isAgg37
 z31:=Tryz.sizeOf37
 v31:=Tryz.zeroValue37
 t46:=Tryz.underlying131
 a46:=Tryz.isAgg131
 z46:=Tryz.sizeOf131
 v46:=Tryz.zeroValue131
 t51:=Tryz.underlying146
 a51:=Tryz.isAgg146
 z51:=Tryz.sizeOf146
 v51:=Tryz.zeroValue146
 t105:=Tryz.underlying127
 a105:=Tryz.isAgg127
 z105:=Tryz.sizeOf127
 v105:=Tryz.zeroValue127
 t119:=Tryz.underlying156
 a119:=Tryz.isAgg156
 z119:=Tryz.sizeOf156
 t138:=Tryz.underlying158
 a138:=Tryz.isAgg158
 z138:=Tryz.sizeOf158
 v138:=Tryz.zeroValue158
 t139:=Tryz.underlying159
 a139:=Tryz.isAgg159
 z139:=Tryz.sizeOf159
 v139:=Tryz.zeroValue159
 t146:=Tryz.underlying147
 a146:=Tryz.isAgg147
 z146:=Tryz.sizeOf147
 v146:=Tryz.zeroValue147
 g1:=by kernel_rfl
 g3:=by kernel_rfl
 g4:=by kernel_rfl }
open Go.RowKit Go.Lib in
theorem sh_strings_Split (s sep:ByteArray) (m:Int) (w:World) (hs:s.size<4294967281) (hm:w.cell? ⟨1,0,none⟩=some (.int .i64 m)) (h1:1≤sep.size) :
  Calls Tryz.prog 19 #[.string s,.string sep] w fun e w'=>
   e=.returned (.slice (some ⟨w.heap.size,0,none⟩) (Lib.countB s sep+1) (Lib.countB s sep+1))∧w'=w.alloc (.cells ((Lib.splitB sep 0 (Lib.countB s sep) s).map Value.string).toArray 9):=Any.strings_Split sh_lays146 (by kernel_rfl) s sep m w hs hm h1
end Go.Proofs.YtjbjnicobdpdhaaGreatDoor

namespace Go.Proofs.YtjbjnicobdpdhaaGreatDoor
open Go Go.RowKit
theorem calle_alloc {P:Program}{f:FuncId}{fn:Func}{args:List Value}{h:Heap}{cs:Array Value}{t:TypeId}{val:Nat→Value}(hf:P.funcs[f]? = some fn) (hname:(fn.name == "runtime.NumGoroutine")=false) (hb:fn.body.isSome=true)
  (hc:∀w,h.sub w→Calls P f args.toArray w fun e w'=>e=.returned (val w.heap.size)∧w'=w.alloc (.cells cs t)):CallE P f args h (fun u h'=>∃b,h b=none∧u=val b∧h'=h.set b (.cells cs t (0,0))):=by
 intro w hw
 obtain⟨bd,hbd⟩:=Option.isSome_iff_exists.1 hb
 have hname':¬fn.name = "runtime.NumGoroutine":=by simpa using hname
 have hcall:(callFunc f args.toArray).run P w=.ok (.enter f args.toArray) w:=by
  simp[callFunc,hf,hname',hbd]
 rw[hcall]
 refine Calls.mono (hc w hw) ?_
 rintro e w' ⟨rfl,rfl⟩
 refine⟨_,_,rfl,⟨w.heap.size,?_,rfl,rfl⟩,sub_new hw _,frm_new _⟩
 cases e:h w.heap.size with
 | none=>rfl
 | some o=>have:=(Array.getElem?_eq_some_iff.1 (hw _ _ e)).1;omega
theorem rep_alloc {h:Heap}{b:Nat}{xs:List ByteArray}{t:TypeId}(hb:h b=none) (hl:xs.length<4611686018427387904) (hp:xs≠[]):HS h [ow (.slice (some ⟨b,0,none⟩) xs.length xs.length) xs] (h.set b (.cells (xs.map Value.string).toArray t (0,0))):=by
 have e:encL xs=xs.map Value.string:=by
  induction xs with
  | nil=>rfl
  | cons x l ih=>
   rw[encL_cons,List.map_cons]
   cases l with
   | nil=>rfl
   | cons y l=>rw[ih (by simp at hl ⊢;omega) (by simp)];rfl
 rw[set_new hb]
 refine⟨h,_,rfl,Dj_one.2 hb,Own_list.2 (.inr ⟨b,0,xs.length,xs.map Value.string,t,Heap.nil,rfl,⟨Nat.le_refl _,hl⟩,?_,by simp,rfl,?_⟩),HS.init⟩
 ·show 0+xs.length*1≤_
  simp
 ·rw[← e]
  exact ownL_enc (fun _ _=>trivial)
theorem ix_one:∀{l:List UInt8}{c:UInt8},Lib.index l [c]=Lib.indexByte l c
 | [],c=>rfl
 | b::l,c=>by
  rw[Lib.index,Lib.indexByte,ix_one (l:=l)]
  have:[c].isPrefixOf (b::l)=(b == c):=by
   by_cases h:b=c
   ·subst h;simp[List.isPrefixOf]
   ·have h1:(b == c)=false:=beq_eq_false_iff_ne.2 h
    have h2:(c == b)=false:=beq_eq_false_iff_ne.2 fun e=>h e.symm
    rw[h1,List.isPrefixOf,h2];rfl
  rw[this]
theorem ix_cases {l:List UInt8}{c:UInt8}:(Lib.indexByte l c = -1∧c∉l)∨∃o:Nat,o<l.length∧Lib.indexByte l c=o∧l=l.take o++c::l.drop (o+1)∧c∉l.take o:=by
 by_cases h:Lib.indexByte l c = -1
 ·refine .inl ⟨h,fun hm=>?_⟩
  obtain⟨k,hk,e⟩:=List.mem_iff_getElem.1 hm
  exact Lib.indexByte_none h k (by rw[List.getElem?_eq_getElem hk,e])
 ·have hge:=Lib.indexByte_ge l c
  obtain⟨o,ho⟩:∃o:Nat,Lib.indexByte l c=o:=⟨(Lib.indexByte l c).toNat,by omega⟩
  obtain⟨h1,h2⟩:=Lib.indexByte_some ho
  obtain⟨hlt,he⟩:=List.getElem?_eq_some_iff.1 h1
  refine .inr ⟨o,hlt,ho,?_,fun hm=>?_⟩
  ·conv=>lhs;rw[← List.take_append_drop o l,List.drop_eq_getElem_cons hlt,he]
  ·obtain⟨k,hk,e⟩:=List.mem_iff_getElem.1 hm
   rw[List.length_take] at hk
   rw[List.getElem_take] at e
   exact h2 k (by omega) (by rw[List.getElem?_eq_getElem (by omega),e])
theorem split_spl {c:UInt8}:∀{n:Nat}{l:List UInt8},l.length≤n→Lib.splitB (Tx [c]) 0 (Lib.countB (Tx l) (Tx [c])) (Tx l)=(spl c l).map Tx:=by
 have hix:∀l,Lib.indexB (Tx l) (Tx [c])=Lib.indexByte l c:=fun l=>ix_one
 intro n
 induction n with
 | zero=>
  intro l hl
  obtain rfl:l=[]:=List.length_eq_zero_iff.1 (by omega)
  have h1:Lib.indexB (Tx []) (Tx [c]) = -1:=hix []
  rw[Lib.countB_miss _ _ h1,Lib.splitB_zero];simp[spl]
 | succ n ih=>
  intro l hl
  rcases ix_cases (l:=l) (c:=c) with ⟨h1,h2⟩ | ⟨o,h1,h2,h3,h4⟩
  ·rw[Lib.countB_miss _ _ ((hix l).trans h1),Lib.splitB_zero,spl_no h2];rfl
  ·have h5:Lib.indexB (Tx l) (Tx [c])=o:=(hix l).trans h2
   have hx:(Tx l).extract (o+(Tx [c]).size) (Tx l).size=Tx (l.drop (o+1)):=by
    rw[Tx_ext,List.take_of_length_le (by rw[List.length_drop];exact Nat.le_refl _)];rfl
   have hs:spl c l=l.take o::spl c (l.drop (o+1)):=by
    conv=>lhs;rw[h3]
    exact spl_app h4
   rw[Lib.countB_hit (Tx l) (Tx [c]) o (Nat.le_refl 1) h5,Nat.add_comm 1,Lib.splitB_hit _ _ _ _ o h5,hx,ih (by rw[List.length_drop];omega),Tx_ext,hs]
   rfl
theorem count_spl {c:UInt8}{l:List UInt8}:Lib.countB (Tx l) (Tx [c])+1=(spl c l).length:=by
 have h:=Lib.splitB_all (Tx [c]) (Nat.le_refl 1) 0 _ (Tx l) rfl
 rw[split_spl (Nat.le_refl _),List.length_map] at h
 exact h.symm
def Gm (h:Heap):Prop:=∃m,hcell h 1 0=some (.int .i64 m)
theorem Gm.le {h h':Heap}(H:Gm h) (hl:h.le h'):Gm h':=by
 obtain⟨m,hm⟩:=H
 exact⟨m,hcell_le hl hm⟩
theorem c_Split {h:Heap}{c:UInt8}{l:List UInt8}(hl:l.length≤1048577) (G:Gm h):CallE Tryz.prog fn_strings_Split [.string (Tx l),.string (Tx [c])] h (fun u h'=>HS h [ow u ((spl c l).map Tx)] h'):=by
 obtain⟨m,hm⟩:=G
 have hcs:=spl_len (c:=c) l
 have hcl:l.count c≤l.length:=List.count_le_length
 refine CallE.mono (k:=fun u h'=>∃b,h b=none∧u=.slice (some ⟨b,0,none⟩) (Lib.countB (Tx l) (Tx [c])+1) (Lib.countB (Tx l) (Tx [c])+1)∧h'=h.set b (.cells (((spl c l).map Tx).map Value.string).toArray 9 (0,0))) ?_ ?_
 ·rintro u h' ⟨b,hb,rfl,rfl⟩
  rw[count_spl]
  have:=rep_alloc (t:=9) (xs:=(spl c l).map Tx) hb (by rw[List.length_map];omega) (by simp[spl_ne])
  rw[List.length_map] at this
  exact this
 ·refine calle_alloc Tryz.func19 (by kernel_rfl) (by kernel_rfl) (val:=fun b=>.slice (some ⟨b,0,none⟩) (Lib.countB (Tx l) (Tx [c])+1) (Lib.countB (Tx l) (Tx [c])+1)) fun w hw=>?_
  have:=sh_strings_Split (Tx l) (Tx [c]) m w (by rw[Tx_size];omega) (hcell_sub hw hm) (Nat.le_refl 1)
  rw[split_spl (Nat.le_refl _)] at this
  exact this
theorem trim_snoc {l:List UInt8}:Lib.trimSuffix (l++[10]) [10]=l:=by
 rw[Lib.trimSuffix,if_pos (by simp[Lib.hasSuffix])]
 simp
theorem trim_len {l p:List UInt8}:(Lib.trimSuffix l p).length≤l.length:=by
 unfold Lib.trimSuffix
 split
 ·rw[List.length_take];omega
 ·omega
theorem c_TrimSuffix {h:Heap}{l p:List UInt8}(hl:l.length≤4294967296):CallE Tryz.prog fn_strings_TrimSuffix [.string (Tx l),.string (Tx p)] h (fun u h'=>h'=h∧u=.string (Tx (Lib.trimSuffix l p))):=
 calle_same Tryz.func20 (by kernel_rfl) (by kernel_rfl) fun w _=>sh_strings_TrimSuffix (Tx l) (Tx p) w (by rw[Tx_size];omega)
theorem c_IndexByte {h:Heap}{l:List UInt8}{c:UInt8}:CallE Tryz.prog fn_strings_IndexByte [.string (Tx l),.int .u8 ((c.toNat:Nat):Int)] h (fun u h'=>h'=h∧u=.int .i64 (Lib.indexByte l c)):=by
 refine calle_same Tryz.func134 (by kernel_rfl) (by kernel_rfl) fun w _=>?_
 have:=sh_strings_IndexByte (Tx l) ((c.toNat:Nat):Int) w
 have e:((c.toNat:Nat):Int).toNat.toUInt8=c:=by
  rw[Int.toNat_natCast];simp
 rw[e] at this
 exact this
theorem c_IndexT {h:Heap}{l s:List UInt8}(hl:l.length≤1048577) (G:Gm h):CallE Tryz.prog fn_strings_Index [.string (Tx l),.string (Tx s)] h (fun u h'=>h'=h∧u=.int .i64 (Lib.index l s)):=by
 obtain⟨m,hm⟩:=G
 exact calle_same Tryz.func53 (by kernel_rfl) (by kernel_rfl) fun w hw=>sh_strings_Index (Tx l) (Tx s) m w (by rw[Tx_size];omega) (hcell_sub hw hm)
theorem c_CutT {h:Heap}{l s:List UInt8}(hl:l.length≤1048577) (G:Gm h):CallE Tryz.prog fn_strings_Cut [.string (Tx l),.string (Tx s)] h (fun u h'=>h'=h∧u=.tuple #[.string (Tx (Lib.cut l s).1),.string (Tx (Lib.cut l s).2.1),.bool (Lib.cut l s).2.2]):=by
 obtain⟨m,hm⟩:=G
 refine calle_below Tryz.func52 (by kernel_rfl) (by kernel_rfl) fun w hw=>?_
 refine (sh_strings_Cut (Tx l) (Tx s) m w (by rw[Tx_size];omega) (hcell_sub hw hm)).mono ?_
 rintro e w' ⟨rfl,n,rfl⟩
 exact⟨rfl,⟨rfl,rfl,rfl,Nat.le_refl _,fun _ _=>rfl⟩⟩
theorem cut_len {l s:List UInt8}:(Lib.cut l s).1.length≤l.length∧(Lib.cut l s).2.1.length≤l.length:=by
 unfold Lib.cut
 split
 ·simp only[List.length_take,List.length_drop];omega
 ·simp
theorem HS.blsO1 {α:Type} [Ty α] {P:Program}{k:Env→Heap→Prop}{e:Env}{g h:Heap}{Γ:List HP}{u:Value}{y:α}(H:HS g (ow u y::Γ) h) {esz:Nat}{zero:List Value}{parts:List (Nat×Nat×O)}{dst:Nat}(hf:fillP e (reps 1 zero) parts=some u.cells.toList)
  (K:∀v' h',HS g (ow v' [y]::Γ) h'→k (eset e dst (some v')) h'):(A.ex (some dst) (.bls esz 1 zero parts)).wp P k e h:=by
 obtain⟨g1,ru,rfl,d2,⟨cs,rfl,ho⟩,H⟩:=H
 have h1:=Ty.len (Ty.own_rep ho)
 rw[rep_cells (Ty.own_rep ho)] at hf
 refine⟨_,hf,fun b el hb=>Fgt.keep ?_⟩
 rw[set_new hb]
 have n1:g1 b=none∧ru b=none:=by simpa[Heap.add] using hb
 rw[add_assoc]
 refine K _ _ ⟨g1,_,rfl,Dj_add.2 ⟨d2,Dj_one.2 n1.1⟩,?_,H⟩
 rw[(Dj_one.2 n1.2).comm]
 refine Own_list.2 (.inr ⟨b,0,1,cs,el,ru,rfl,⟨Nat.le_refl _,by simp⟩,by simp[h1],rfl,n1.2,?_⟩)
 exact⟨ru,Heap.nil,by simp,by simp,by simpa[← h1] using ho,rfl⟩
theorem HS.blsO2 {α:Type} [Ty α] {P:Program}{k:Env→Heap→Prop}{e:Env}{g h:Heap}{Γ:List HP}{u u2:Value}{y y2:α}(H:HS g (ow u y::ow u2 y2::Γ) h) {esz:Nat}{zero:List Value}{parts:List (Nat×Nat×O)}{dst:Nat}(hf:fillP e (reps 2 zero) parts=some (u.cells.toList++u2.cells.toList))
  (K:∀v' h',HS g (ow v' [y,y2]::Γ) h'→k (eset e dst (some v')) h'):(A.ex (some dst) (.bls esz 2 zero parts)).wp P k e h:=by
 obtain⟨g0,ru,rfl,d2,⟨cs,rfl,ho⟩,g1,ru2,rfl,d3,⟨cs2,rfl,ho2⟩,H⟩:=H
 have h1:=Ty.len (Ty.own_rep ho)
 have h2:=Ty.len (Ty.own_rep ho2)
 rw[rep_cells (Ty.own_rep ho),rep_cells (Ty.own_rep ho2)] at hf
 obtain⟨d4,d5⟩:=add_Dj.1 d2
 refine⟨_,hf,fun b el hb=>Fgt.keep ?_⟩
 rw[set_new hb]
 have n1:(g1 b=none∧ru2 b=none)∧ru b=none:=by simpa[Heap.add] using hb
 rw[add_assoc,add_assoc]
 refine K _ _ ⟨g1,_,rfl,Dj_add.2 ⟨d3,Dj_add.2 ⟨d4,Dj_one.2 n1.1.1⟩⟩,?_,H⟩
 rw[← add_assoc,(Dj_one.2 (show (ru2.add ru) b=none by simp[Heap.add,n1])).comm]
 refine Own_list.2 (.inr ⟨b,0,2,cs++cs2,el,ru2.add ru,rfl,⟨Nat.le_refl _,by simp⟩,by simp[h1,h2];omega,rfl,by simp[Heap.add,n1],?_⟩)
 rw[d5.comm]
 refine⟨ru,ru2,rfl,d5.symm,by simpa[← h1] using ho,ru2,Heap.nil,by simp,by simp,?_,rfl⟩
 have e1:List.drop (Ty.sz α) (cs++cs2)=cs2:=by rw[← h1,List.drop_left]
 simp only[List.drop_zero]
 rw[e1,List.take_of_length_le (by omega)]
 exact ho2
theorem c_take {g h:Heap}{Γ:List HP}{b:Nat}{bs r:List UInt8}{bad:Bool}(H:HS g (bx b [.string (Tx r),.bool bad]::Γ) h) :
  CallE Tryz.prog fn_impl_reader_take [.pointer (some ⟨b,0,none⟩),.string (Tx bs)] h (fun u h'=>u=.int .i64 (tk bs r bad).1∧HS g (bx b [.string (Tx (tk bs r bad).2.1),.bool (tk bs r bad).2.2]::Γ) h'):=by
 have hb0:hload h (some (.pointer (some ⟨b,0,none⟩))) none=some (.string (Tx r)):=H.bxld rfl
 have hb1:hload h (some (.pointer (some ⟨b,1,none⟩))) none=some (.bool bad):=H.bxld rfl
 refine CallE.gen fun k hk=>EN_impl_reader_take rfl ?_
 cases bad with
 | true=>
  simp -implicitDefEqProofs (disch:=first|omega|(simp only[LnZ];omega))[wrap64,hb0,hb1]
  refine HS.bxst (o:=1) (sz:=1) (u:=.bool true) H rfl rfl rfl rfl (by simp) fun h2 H=>?_
  simp -implicitDefEqProofs (disch:=omega)[wrap64]
  exact RetK.keep (hk _ _ ⟨rfl,H⟩)
 | false=>
  match r with
  | []=>
   simp -implicitDefEqProofs (disch:=first|omega|(simp only[LnZ];omega))[wrap64,hb0,hb1]
   refine HS.bxst (o:=1) (sz:=1) (u:=.bool true) H rfl rfl rfl rfl (by simp) fun h2 H=>?_
   simp -implicitDefEqProofs (disch:=omega)[wrap64]
   exact RetK.keep (hk _ _ ⟨rfl,H⟩)
  | c::r=>
   have hne:¬(c::r=[]):=by simp
   have hi:idxSV (.string (Tx (c::r))) (.int .i64 0)=some (.int .u8 ((c.toNat:Nat):Int)):=idxTx0 (l:=c::r) (by simp)
   simp -implicitDefEqProofs (disch:=first|omega|(simp only[LnZ];omega))[wrap64,hb0,hb1,hi]
   refine c_IndexByte.go ?_
   rintro _ h ⟨rfl,rfl⟩
   have hlt:=indexByte_lt (l:=bs) (c:=c)
   by_cases q:Lib.indexByte bs c<0
   ·simp -implicitDefEqProofs (disch:=first|omega|(simp only[LnZ];omega))[wrap64,q]
    refine HS.bxst (o:=1) (sz:=1) (u:=.bool true) H rfl rfl rfl rfl (by simp) fun h2 H=>?_
    simp -implicitDefEqProofs (disch:=omega)[wrap64]
    have e:tk bs (c::r) false=(-1,c::r,true):=by simp[tk,q]
    rw[e] at hk
    exact RetK.keep (hk _ _ ⟨rfl,H⟩)
   ·have e1:sliceSV (.string (Tx (c::r))) (some (some (.int .i64 1))) none=some (.string (Tx r)):=slcTxE (l:=c::r) (k:=.i64) (a:=1) (by simp)
    simp -implicitDefEqProofs (disch:=first|omega|(simp only[LnZ];omega))[wrap64,q,hb0,e1]
    refine HS.bxst (o:=0) (sz:=1) (u:=.string (Tx r)) H rfl rfl rfl rfl (by simp) fun h2 H=>?_
    simp -implicitDefEqProofs (disch:=omega)[wrap64]
    have e:tk bs (c::r) false=(Lib.indexByte bs c,r,false):=by simp[tk,q]
    rw[e] at hk
    exact RetK.keep (hk _ _ ⟨rfl,H⟩)
theorem HS.mkE0 {g h:Heap}{Γ:List HP}{kd vl:Int}(H:HS g Γ h) (h1:I64 kd) (h2:I64 vl):HS g (ow (.agg #[.int .i64 kd,.int .i64 vl,.slice none 0 0]) (Exq.mk kd vl [])::Γ) h:=HS.mkExq' H.nil_ow h1 h2
theorem c_expr:∀(n:Nat) {g h:Heap}{Γ:List HP}{b:Nat}{r:List UInt8}{bad:Bool}{d:Int},d+n=7→0≤d→r.length≤1048577→HS g (bx b [.string (Tx r),.bool bad]::Γ) h →
  CallE Tryz.prog fn_impl_reader_expr [.pointer (some ⟨b,0,none⟩),.int .i64 d] h (fun u h'=>HS g (ow u (ex n r bad).1::bx b [.string (Tx (ex n r bad).2.1),.bool (ex n r bad).2.2]::Γ) h'):=by
 have i0:I64 0:=⟨by decide,by decide⟩
 intro n
 induction n with
 | zero=>
  intro g h Γ b r bad d hd hd0 hr H
  have hb1:hload h (some (.pointer (some ⟨b,1,none⟩))) none=some (.bool bad):=H.bxld rfl
  refine CallE.gen fun k hk=>EN_impl_reader_expr rfl ?_
  have h6:6<d:=by omega
  simp -implicitDefEqProofs (disch:=first|omega|(simp only[LnZ];omega))[wrap64,h6]
  refine HS.bxst (o:=1) (sz:=1) (u:=.bool true) H rfl rfl rfl rfl (by simp) fun h2 H=>?_
  replace H:HS g (bx b [.string (Tx r),.bool true]::Γ) h2:=H
  simp -implicitDefEqProofs (disch:=omega)[wrap64]
  refine (c_take (bs:=bF) H).go ?_
  rintro _ h3 ⟨rfl,H⟩
  rw[tk_bad] at H
  have hb1:hload h3 (some (.pointer (some ⟨b,1,none⟩))) none=some (.bool true):=H.bxld rfl
  simp -implicitDefEqProofs (disch:=first|omega|(simp only[LnZ];omega))[wrap64,hb1,setC]
  exact RetK.keep (hk _ _ (H.mkE0 i0 i0))
 | succ n ih=>
  intro g h Γ b r bad d hd hd0 hr H
  refine CallE.gen fun k hk=>EN_impl_reader_expr rfl ?_
  have h6:¬6<d:=by omega
  simp -implicitDefEqProofs (disch:=first|omega|(simp only[LnZ];omega))[wrap64,h6]
  refine (c_take (bs:=bF) H).go ?_
  rintro _ h3 ⟨rfl,H⟩
  obtain⟨g1,g2,g3⟩:=tk_rng (bs:=bF) (r:=r) (bad:=bad)
  have g0:=tk_nn (bs:=bF) (r:=r) (bad:=bad)
  have g2:(tk bF r bad).1<(9:Nat):=g2
  rw[ex] at hk
  generalize tk bF r bad=q at *
  obtain⟨a,r1,b1⟩:=q
  simp only at *
  have hb1:hload h3 (some (.pointer (some ⟨b,1,none⟩))) none=some (.bool b1):=H.bxld rfl
  cases b1 with
  | true=>
   simp -implicitDefEqProofs (disch:=first|omega|(simp only[LnZ];omega))[wrap64,hb1,setC]
   exact RetK.keep (hk _ _ (H.mkE0 i0 i0))
  | false=>
   have g0:=g0 rfl
   simp only[Bool.false_eq_true,if_false] at hk
   by_cases c1:a<4
   ·rw[if_pos c1] at hk
    simp -implicitDefEqProofs (disch:=first|omega|(simp only[LnZ];omega))[wrap64,hb1,c1,setC]
    exact RetK.keep (hk _ _ (H.mkE0 ⟨by decide,by decide⟩ ⟨by omega,by omega⟩))
   by_cases c2:a<7
   ·rw[if_neg c1,if_pos c2] at hk
    simp -implicitDefEqProofs (disch:=first|omega|(simp only[LnZ];omega))[wrap64,hb1,c1,c2,setC]
    exact RetK.keep (hk _ _ (H.mkE0 ⟨by decide,by decide⟩ ⟨by omega,by omega⟩))
   by_cases c3:a=7
   ·rw[if_neg c1,if_neg c2,if_pos c3] at hk
    simp -implicitDefEqProofs (disch:=first|omega|(simp only[LnZ];omega))[wrap64,hb1,c1,c2,c3]
    refine (ih (by omega) (by omega) (by omega) H).go ?_
    intro w h4 H
    generalize ex n r1 false=q2 at *
    obtain⟨x,r2,b2⟩:=q2
    simp only at *
    obtain⟨ww,rfl,j1,j2,_⟩:=Rep_Exq.1 H.rep
    simp -implicitDefEqProofs (disch:=omega)[wrap64]
    refine HS.blsO1 H rfl fun v h5 H=>?_
    have hO:=H.rep.one
    have hC:=H.rep.cells
    simp -implicitDefEqProofs (disch:=first|omega|(simp only[LnZ];omega))[wrap64,setC,hO,hC]
    exact RetK.keep (hk _ _ (HS.mkExq' H ⟨by decide,by decide⟩ i0))
   ·rw[if_neg c1,if_neg c2,if_neg c3] at hk
    simp -implicitDefEqProofs (disch:=first|omega|(simp only[LnZ];omega))[wrap64,hb1,c1,c2,c3]
    refine (ih (by omega) (by omega) (by omega) H).go ?_
    intro w h4 H
    have hrl:=ex_len (n:=n) (r:=r1) (bad:=false)
    generalize ex n r1 false=q2 at *
    obtain⟨x,r2,b2⟩:=q2
    simp only at *
    obtain⟨wx,rfl,_,_,Rx⟩:=Rep_Exq.1 H.rep
    have FX:=H.rep.aExq
    have hOx:=Rx.one
    have hCx:=Rx.cells
    simp -implicitDefEqProofs (disch:=first|omega|(simp only[LnZ];omega))[wrap64,FX,setC,hOx,hCx]
    refine (c_take (bs:=bS) H.sw1).go ?_
    rintro _ h5 ⟨rfl,H⟩
    obtain⟨k1,k2,k3⟩:=tk_rng (bs:=bS) (r:=r2) (bad:=b2)
    have k2:(tk bS r2 b2).1<(6:Nat):=k2
    generalize tk bS r2 b2=q3 at *
    obtain⟨kd,r3,b3⟩:=q3
    simp only at *
    simp -implicitDefEqProofs (disch:=omega)[wrap64]
    refine (ih (by omega) (by omega) (by omega) H).go ?_
    intro w2 h6 H
    have hrl2:=ex_len (n:=n) (r:=r3) (bad:=b3)
    generalize ex n r3 b3=q4 at *
    obtain⟨y,r4,b4⟩:=q4
    simp only at *
    obtain⟨wy,rfl,_,_,Ry⟩:=Rep_Exq.1 H.rep
    have FY:=H.rep.aExq
    have hOy:=Ry.one
    have hCy:=Ry.cells
    simp -implicitDefEqProofs (disch:=first|omega|(simp only[LnZ];omega))[wrap64,FY,setC,hOy,hCy]
    refine (c_take (bs:=bC) H.sw1).go ?_
    rintro _ h7 ⟨rfl,H⟩
    simp -implicitDefEqProofs (disch:=first|omega|(simp only[LnZ];omega))[wrap64,FX,FY,setC,hOx,hCx,hOy,hCy]
    refine HS.blsO2 (H.sw1.sw2) rfl fun v h8 H=>?_
    have hO:=H.rep.one
    have hC:=H.rep.cells
    simp -implicitDefEqProofs (disch:=first|omega|(simp only[LnZ];omega))[wrap64,setC,hO,hC]
    exact RetK.keep (hk _ _ (HS.mkExq' H ⟨by omega,by omega⟩ i0))
theorem Exq.fmt_ok {x:Exq}{r:List UInt8}(h:x.Ok):ex 6 (x.fmt++r) false=(x,r,false):=ex_fmt h.1
noncomputable def rdE (t:List UInt8):Option Exq:=if (ex 6 t false).2.2=false∧(ex 6 t false).2.1=[]∧(ex 6 t false).1.Ok then some (ex 6 t false).1 else none
theorem rdE_fmt {x:Exq}(h:x.Ok):rdE x.fmt=some x:=by
 have e:=Exq.fmt_ok (r:=[]) h
 rw[List.append_nil] at e
 rw[rdE,e,if_pos ⟨rfl,rfl,h⟩]
theorem c_ParseExpr {h:Heap}{t:List UInt8}(ht:t.length≤1048577):CallE Tryz.prog fn_impl_ParseExpr [.string (Tx t)] h (R2 (rdE t).isSome ((rdE t).getD Exq.zero) h):=by
 have i0:I64 0:=⟨by decide,by decide⟩
 refine CallE.gen fun k hk=>EN_impl_ParseExpr rfl ?_
 have nil:∀{h':Heap},h.le h'→rdE t=none→k (.tuple #[.agg #[.int .i64 0,.int .i64 0,.slice none 0 0],.bool false]) h':=fun hl he=>hk _ _ ⟨_,by rw[he];rfl,by rw[he];exact HS.mkE0 (Γ:=[]) hl i0 i0⟩
 simp -implicitDefEqProofs (disch:=omega)[wrap64]
 refine HS.init.alloc rfl fun b h1 H=>?_
 have H:HS h [bx b [.string (Tx t),.bool false]] h1:=H
 simp -implicitDefEqProofs (disch:=omega)[wrap64]
 refine (c_expr 6 (by omega) (by omega) ht H).go ?_
 intro w h2 H
 have hr:rdE t=if (ex 6 t false).2.2=false∧(ex 6 t false).2.1=[]∧(ex 6 t false).1.Ok then some (ex 6 t false).1 else none:=rfl
 generalize ex 6 t false=q at *
 obtain⟨x,r,bad⟩:=q
 simp only at hr H
 obtain⟨wx,rfl,_,_,Rx⟩:=Rep_Exq.1 H.rep
 have FX:=H.rep.aExq
 have hOx:=Rx.one
 have hCx:=Rx.cells
 have hb0:hload h2 (some (.pointer (some ⟨b,0,none⟩))) none=some (.string (Tx r)):=H.sw1.bxld rfl
 have hb1:hload h2 (some (.pointer (some ⟨b,1,none⟩))) none=some (.bool bad):=H.sw1.bxld rfl
 cases bad with
 | true=>
  have hr:rdE t=none:=by rw[hr,if_neg (by simp)]
  simp -implicitDefEqProofs (disch:=first|omega|(simp only[LnZ];omega))[wrap64,FX,setC,hOx,hCx,hb0,hb1]
  exact RetK.keep (nil H.base hr)
 | false=>
  by_cases c1:r=[]
  case neg=>
   have hr:rdE t=none:=by rw[hr,if_neg (by simp[c1])]
   simp -implicitDefEqProofs (disch:=first|omega|(simp only[LnZ];omega))[wrap64,FX,setC,hOx,hCx,hb0,hb1,c1]
   exact RetK.keep (nil H.base hr)
  simp -implicitDefEqProofs (disch:=first|omega|(simp only[LnZ];omega))[wrap64,FX,setC,hOx,hCx,hb0,hb1,c1]
  refine (c_ExprValid H.rep).go ?_
  rintro _ h3 ⟨l3,rfl⟩
  by_cases c2:x.Ok
  ·have hr:rdE t=some x:=by rw[hr,if_pos ⟨rfl,c1,c2⟩]
   simp -implicitDefEqProofs (disch:=first|omega|(simp only[LnZ];omega))[wrap64,FX,setC,hOx,hCx,c2]
   refine RetK.keep (hk _ _ ⟨_,by rw[hr];rfl,?_⟩)
   rw[hr]
   exact ((H.le l3).sw1).drop
  ·have hr:rdE t=none:=by rw[hr,if_neg (by simp[c2])]
   simp -implicitDefEqProofs (disch:=first|omega|(simp only[LnZ];omega))[wrap64,FX,setC,hOx,hCx,c2]
   exact RetK.keep (nil (H.base.trans l3) hr)
theorem fmt_hd {x:Exq}{n:Nat}(h:x.Shp n):(x.kind=1∧x.fmt=[dg x.val]∧48≤(dg x.val).toNat∧(dg x.val).toNat≤57)∨(x.kind=2∧x.fmt=[UInt8.ofNat (120+x.val.toNat)]∧(UInt8.ofNat (120+x.val.toNat)).toNat=120+x.val.toNat) ∨
  (x.kind=3∧∃t,x.fmt=33::t)∨(4≤x.kind∧∃t,x.fmt=40::t):=by
 have hn:=h.nd
 have hlo:=hn.lo
 rcases hn.cases with c | c | c | c
 ·have h3:=hn.hi1 c
  have:=dg_nat hlo (by omega:x.val≤9)
  exact .inl ⟨c,Exq.fmt1 c,by omega,by omega⟩
 ·have h3:=hn.hi2 c
  exact .inr (.inl ⟨c,Exq.fmt2 c,by rw[UInt8.toNat_ofNat'];omega⟩)
 ·exact .inr (.inr (.inl ⟨c,_,Exq.fmt3 c (by have:=hn.k3 c;omega)⟩))
 ·exact .inr (.inr (.inr ⟨c.1,_,Exq.fmt4 c.1 (by have:=hn.k4 c.1;omega)⟩))
theorem exq_eta {x:Exq}{k v:Int}{l:List Exq}(h1:x.kind=k) (h2:x.val=v) (h3:x.kids=l):Exq.mk k v l=x:=by
 cases x
 simp only[Exq.kind,Exq.val,Exq.kids] at h1 h2 h3
 rw[h1,h2,h3]
def At (n:Nat) (s:List UInt8) (p:Nat) (y:Exq) (m:Int):Prop:=∀x r,Exq.Shp n x→s.drop p=x.fmt++r→y=x∧m=p+x.fmt.length
theorem At.no {n:Nat}{s:List UInt8}{p:Nat}{y:Exq}{m:Int}(h:∀x r,Exq.Shp n x→s.drop p=x.fmt++r→False):At n s p y m:=fun x r h1 h2=>(h x r h1 h2).elim
theorem c_l1Parse:∀(n:Nat) {h:Heap}{s:List UInt8}{p:Nat},n≤6→s.length≤1048577→p≤s.length →
  CallE Tryz.prog fn_spec_l1Parse [.string (Tx s),.int .i64 p,.int .i64 n] h (fun u h'=>∃v y m,u=.tuple #[v,.int .i64 m]∧HS h [ow v y] h'∧(m = -1∨∃j:Nat,m=j∧j≤s.length)∧At n s p y m):=by
 have i0:I64 0:=⟨by decide,by decide⟩
 intro n
 induction n with
 | zero=>
  intro h s p hn6 hs hp
  refine CallE.gen fun k hk=>EN_spec_l1Parse rfl ?_
  simp -implicitDefEqProofs (disch:=first|omega|(simp only[LnZ];omega))[wrap64,setC]
  exact RetK.keep (hk _ _ ⟨_,Exq.zero,-1,rfl,HS.init.mkE0 i0 i0,.inl rfl,fun x r hx _=>hx.elim⟩)
 | succ n ih=>
  intro h s p hn6 hs hp
  refine CallE.gen fun k hk=>EN_spec_l1Parse rfl ?_
  have zz:∀{h':Heap},h.le h'→(∀x r,Exq.Shp (n+1) x→s.drop p=x.fmt++r→False)→k (.tuple #[.agg #[.int .i64 0,.int .i64 0,.slice none 0 0],.int .i64 (-1)]) h':=fun hl hno=>hk _ _ ⟨_,Exq.zero,-1,rfl,HS.mkE0 (Γ:=[]) hl i0 i0,.inl rfl,At.no hno⟩
  have n1:¬(n:Int)+1<1:=by omega
  by_cases hpl:p<s.length
  case neg=>
   have hpi:(s.length:Int)≤p:=by omega
   simp -implicitDefEqProofs (disch:=first|omega|(simp only[LnZ];omega))[wrap64,n1,hpi,setC]
   refine RetK.keep (zz (Heap.le.refl _) fun x r hx e=>?_)
   rw[List.drop_of_length_le (by omega)] at e
   have:=(Exq.fmt_len hx).1
   have:=congrArg List.length e
   simp at this;omega
  have hpi:¬(s.length:Int)≤p:=by omega
  obtain⟨c,hc⟩:∃c,c=s[p]:=⟨_,rfl⟩
  have hdr:s.drop p=c::s.drop (p+1):=by rw[List.drop_eq_getElem_cons hpl,hc]
  have hix:idxSV (.string (Tx s)) (.int .i64 (p:Int))=some (.int .u8 ((c.toNat:Nat):Int)):=by rw[hc];exact idxTx hpl
  have hc256:=c.toNat_lt
  have hd:∀x r,Exq.Shp (n+1) x→s.drop p=x.fmt++r→∃t,x.fmt=c::t:=by
   intro x r hx e
   have:=(Exq.fmt_len hx).1
   rw[hdr] at e
   match hf:x.fmt,this with
   | a::t,_=>
    rw[hf,List.cons_append] at e
    exact⟨t,by rw[(List.cons.inj e).1]⟩
  by_cases q1:48≤c.toNat∧c.toNat≤57
  ·have q1a:(48:Int)≤c.toNat:=by omega
   have q1b:(c.toNat:Int)≤57:=by omega
   simp -implicitDefEqProofs (disch:=first|omega|(simp only[LnZ];omega))[wrap64,n1,hpi,hix,q1a,q1b,setC]
   refine RetK.keep (hk _ _ ⟨_,Exq.mk 1 ((c.toNat:Int)-48) [],_,rfl,HS.init.mkE0 ⟨by decide,by decide⟩ ⟨by omega,by omega⟩,.inr ⟨p+1,by omega,by omega⟩,fun x r hx e=>?_⟩)
   obtain⟨t,ht⟩:=hd x r hx e
   rcases fmt_hd hx with ⟨f1,f2,_⟩ | ⟨f1,f2,f3⟩ | ⟨f1,t',f2⟩ | ⟨f1,t',f2⟩
   ·rw[f2] at ht
    have e1:dg x.val=c:=(List.cons.inj ht).1
    have h3:=hx.nd.hi1 f1
    have e2:=dg_int hx.nd.lo (by omega:x.val≤9)
    rw[e1] at e2
    exact⟨exq_eta f1 e2.symm (hx.nd.k12 (.inl f1)),by rw[f2];simp⟩
   ·rw[f2] at ht
    have e1:=(List.cons.inj ht).1
    rw[e1] at f3
    omega
   ·rw[f2] at ht
    have e1:33=c:=(List.cons.inj ht).1
    rw[← e1] at q1
    exact absurd q1.1 (by decide)
   ·rw[f2] at ht
    have e1:40=c:=(List.cons.inj ht).1
    rw[← e1] at q1
    exact absurd q1.1 (by decide)
  by_cases q2:120≤c.toNat∧c.toNat≤122
  ·have q1a:(48:Int)≤c.toNat:=by omega
   have q1b:¬(c.toNat:Int)≤57:=by omega
   have q2a:(120:Int)≤c.toNat:=by omega
   have q2b:(c.toNat:Int)≤122:=by omega
   simp -implicitDefEqProofs (disch:=first|omega|(simp only[LnZ];omega))[wrap64,n1,hpi,hix,q1a,q1b,q2a,q2b,setC]
   refine RetK.keep (hk _ _ ⟨_,Exq.mk 2 ((c.toNat:Int)-120) [],_,rfl,HS.init.mkE0 ⟨by decide,by decide⟩ ⟨by omega,by omega⟩,.inr ⟨p+1,by omega,by omega⟩,fun x r hx e=>?_⟩)
   obtain⟨t,ht⟩:=hd x r hx e
   rcases fmt_hd hx with ⟨f1,f2,f3,f4⟩ | ⟨f1,f2,f3⟩ | ⟨f1,t',f2⟩ | ⟨f1,t',f2⟩
   ·rw[f2] at ht
    have e1:dg x.val=c:=(List.cons.inj ht).1
    rw[e1] at f3 f4
    omega
   ·rw[f2] at ht
    have e1:=(List.cons.inj ht).1
    rw[e1] at f3
    have:=hx.nd.lo
    exact⟨exq_eta f1 (by omega) (hx.nd.k12 (.inr f1)),by rw[f2];simp⟩
   ·rw[f2] at ht
    have e1:33=c:=(List.cons.inj ht).1
    rw[← e1] at q2
    exact absurd q2.1 (by decide)
   ·rw[f2] at ht
    have e1:40=c:=(List.cons.inj ht).1
    rw[← e1] at q2
    exact absurd q2.1 (by decide)
  have sm:∀x r,Exq.Shp (n+1) x→s.drop p=x.fmt++r→(x.kind=3∧c.toNat=33)∨(4≤x.kind∧c.toNat=40):=by
   intro x r hx e
   obtain⟨t,ht⟩:=hd x r hx e
   rcases fmt_hd hx with ⟨f1,f2,f3,f4⟩ | ⟨f1,f2,f3⟩ | ⟨f1,t',f2⟩ | ⟨f1,t',f2⟩
   ·rw[f2] at ht
    have e1:dg x.val=c:=(List.cons.inj ht).1
    rw[e1] at f3 f4
    omega
   ·rw[f2] at ht
    have e1:=(List.cons.inj ht).1
    rw[e1] at f3
    have:=hx.nd.lo
    have:=hx.nd.hi2 f1
    omega
   ·rw[f2] at ht
    have e1:33=c:=(List.cons.inj ht).1
    exact .inl ⟨f1,by rw[← e1];rfl⟩
   ·rw[f2] at ht
    have e1:40=c:=(List.cons.inj ht).1
    exact .inr ⟨f1,by rw[← e1];rfl⟩
  by_cases q3:c.toNat=33
  ·have cc:((c.toNat:Nat):Int)=33:=by omega
   simp -implicitDefEqProofs (disch:=first|omega|(simp only[LnZ];omega))[wrap64,n1,hpi,hix,cc]
   refine (ih (p:=p+1) (by omega) hs (by omega)).go ?_
   rintro _ h1 ⟨v,y,m,rfl,H,hm,hA⟩
   have hmr:I64 m:=by rcases hm with rfl | ⟨j,rfl,hj⟩<;>exact⟨by omega,by omega⟩
   obtain⟨w,rfl,_,_,Rw⟩:=Rep_Exq.1 H.rep
   have FY:=H.rep.aExq
   have hOw:=Rw.one
   have hCw:=Rw.cells
   simp -implicitDefEqProofs (disch:=first|omega|(simp only[LnZ];omega))[wrap64,FY,setC,hOw,hCw]
   refine HS.blsO1 H rfl fun v2 h2 H=>?_
   have hO:=H.rep.one
   have hC:=H.rep.cells
   simp -implicitDefEqProofs (disch:=first|omega|(simp only[LnZ];omega))[wrap64,setC,hO,hC]
   refine RetK.keep (hk _ _ ⟨_,Exq.mk 3 0 [y],m,rfl,HS.mkExq' H ⟨by decide,by decide⟩ i0,hm,fun x r hx e=>?_⟩)
   rcases sm x r hx e with ⟨f1,_⟩ | ⟨_,f2⟩
   ·have hl:=hx.nd.k3 f1
    have e3:=Exq.fmt3 f1 (by omega)
    rw[hdr,e3,List.cons_append] at e
    obtain⟨h5,h6⟩:=hA _ r (hx.kid (i:=0) (by omega)) (List.cons.inj e).2
    refine⟨exq_eta f1 (hx.nd.hi3 (by omega)) ?_,by rw[h6,e3];simp;omega⟩
    obtain⟨a,ha⟩:=List.length_eq_one_iff.1 hl
    rw[h5]
    simp[ha]
   ·omega
  by_cases q4:c.toNat=40
  ·have cc:((c.toNat:Nat):Int)=40:=by omega
   simp -implicitDefEqProofs (disch:=first|omega|(simp only[LnZ];omega))[wrap64,n1,hpi,hix,cc]
   refine (ih (p:=p+1) (by omega) hs (by omega)).go ?_
   rintro _ h1 ⟨v,y,m,rfl,H,hm,hA⟩
   obtain⟨w,rfl,_,_,Rw⟩:=Rep_Exq.1 H.rep
   have FY:=H.rep.aExq
   have hOw:=Rw.one
   have hCw:=Rw.cells
   have key:∀x r,Exq.Shp (n+1) x→s.drop p=x.fmt++r→∃a b,x.kids=[a,b]∧a.Shp n∧b.Shp n∧(4≤x.kind∧x.kind≤9)∧x.val=0∧x.fmt.length=a.fmt.length+b.fmt.length+3∧s.drop (p+1)=a.fmt++Exq.sg x.kind::(b.fmt++41::r):=by
    intro x r hx e
    rcases sm x r hx e with ⟨_,f2⟩ | ⟨f1,_⟩
    ·omega
    ·have hl:=hx.nd.k4 f1
     have e4:=Exq.fmt4 f1 (by omega)
     have hkd:=hx.nd.kind
     refine⟨_,_,two_eta hl,hx.kid (by omega),hx.kid (by omega),⟨f1,hkd.2⟩,hx.nd.hi3 (by omega),by rw[e4];simp;omega,?_⟩
     rw[hdr,e4,List.cons_append] at e
     rw[(List.cons.inj e).2];simp
   rcases hm with rfl | ⟨j,rfl,hj⟩
   ·simp -implicitDefEqProofs (disch:=first|omega|(simp only[LnZ];omega))[wrap64,FY,setC,hOw,hCw]
    refine RetK.keep (zz H.base fun x r hx e=>?_)
    obtain⟨a,b,_,ha,_,_,_,_,h5⟩:=key x r hx e
    have:=(hA a _ ha h5).2
    omega
   by_cases hjl:j<s.length
   case neg=>
    have hji:(s.length:Int)≤j:=by omega
    have hj0:¬(j:Int)<0:=by omega
    simp -implicitDefEqProofs (disch:=first|omega|(simp only[LnZ];omega))[wrap64,FY,setC,hOw,hCw,hji,hj0]
    refine RetK.keep (zz H.base fun x r hx e=>?_)
    obtain⟨a,b,_,ha,_,_,_,_,h5⟩:=key x r hx e
    have h6:=(hA a _ ha h5).2
    have h7:=congrArg List.length h5
    simp only[List.length_drop,List.length_append,List.length_cons] at h7
    omega
   have hji:¬(s.length:Int)≤j:=by omega
   have hj0:¬(j:Int)<0:=by omega
   simp -implicitDefEqProofs (disch:=first|omega|(simp only[LnZ];omega))[wrap64,FY,setC,hOw,hCw,hji,hj0]
   refine (ih (p:=j+1) (by omega) hs (by omega)).go ?_
   rintro _ h2 ⟨v2,y2,m2,rfl,H2,hm2,hA2⟩
   have H:=H2.app H
   obtain⟨w2,rfl,_,_,Rw2⟩:=Rep_Exq.1 H.rep
   have FY2:=H.rep.aExq
   have hOw2:=Rw2.one
   have hCw2:=Rw2.cells
   have key2:∀x r,Exq.Shp (n+1) x→s.drop p=x.fmt++r→y::y2::[]=x.kids∧(4≤x.kind∧x.kind≤9)∧x.val=0∧s[j]=Exq.sg x.kind∧(m2:Int)=p+x.fmt.length-1∧s.drop (m2.toNat)=41::r∧0≤m2:=by
    intro x r hx e
    obtain⟨a,b,hk,ha,hb,hkd,hv,hfl,h5⟩:=key x r hx e
    obtain⟨e1,e2⟩:=hA a _ ha h5
    have h6:s.drop j=Exq.sg x.kind::(b.fmt++41::r):=by
     have:s.drop (p+1+a.fmt.length)=Exq.sg x.kind::(b.fmt++41::r):=by rw[← List.drop_drop,h5,List.drop_left]
     rw[show j=p+1+a.fmt.length by omega];exact this
    rw[List.drop_eq_getElem_cons hjl] at h6
    obtain⟨h7,h8⟩:=List.cons.inj h6
    obtain⟨e3,e4⟩:=hA2 b _ hb h8
    have h9:s.drop (j+1+b.fmt.length)=41::r:=by rw[← List.drop_drop,h8,List.drop_left]
    refine⟨by rw[hk,e1,e3],hkd,hv,h7,by omega,by rw[show m2.toNat=j+1+b.fmt.length by omega];exact h9,by omega⟩
   rcases hm2 with rfl | ⟨j2,rfl,hj2⟩
   ·simp -implicitDefEqProofs (disch:=first|omega|(simp only[LnZ];omega))[wrap64,FY2,setC,hOw2,hCw2]
    refine RetK.keep (zz H.base fun x r hx e=>?_)
    have:=key2 x r hx e
    omega
   by_cases hjl2:j2<s.length
   case neg=>
    have hji:(s.length:Int)≤j2:=by omega
    have hj0:¬(j2:Int)<0:=by omega
    simp -implicitDefEqProofs (disch:=first|omega|(simp only[LnZ];omega))[wrap64,FY2,setC,hOw2,hCw2,hji,hj0]
    refine RetK.keep (zz H.base fun x r hx e=>?_)
    have h7:=congrArg List.length (key2 x r hx e).2.2.2.2.2.1
    simp only[List.length_drop,List.length_cons,Int.toNat_natCast] at h7
    omega
   have hji2:¬(s.length:Int)≤j2:=by omega
   have hj02:¬(j2:Int)<0:=by omega
   have hix2:idxSV (.string (Tx s)) (.int .i64 (j2:Int))=some (.int .u8 ((s[j2].toNat:Nat):Int)):=idxTx hjl2
   by_cases q5:s[j2].toNat=41
   case neg=>
    have q5i:¬((s[j2].toNat:Nat):Int)=41:=by omega
    simp -implicitDefEqProofs (disch:=first|omega|(simp only[LnZ];omega))[wrap64,FY2,setC,hOw2,hCw2,hji2,hj02,hix2,q5,q5i]
    refine RetK.keep (zz H.base fun x r hx e=>?_)
    have h7:=(key2 x r hx e).2.2.2.2.2.1
    rw[Int.toNat_natCast,List.drop_eq_getElem_cons hjl2] at h7
    rw[(List.cons.inj h7).1] at q5
    exact q5 rfl
   have q5i:((s[j2].toNat:Nat):Int)=41:=by omega
   simp -implicitDefEqProofs (disch:=first|omega|(simp only[LnZ];omega))[wrap64,FY2,setC,hOw2,hCw2,hji2,hj02,hix2,q5i]
   refine wp_count 6 (fun i e h'=>e=[some (.string (Tx s)),none,none,some (.agg #[.int .i64 0,.int .i64 0,.slice none 0 0]),none,none,none,none,some (.agg #[.int .i64 y.kind,.int .i64 y.val,w]),some (.int .i64 j),some (.agg #[.int .i64 y2.kind,.int .i64 y2.val,w2]),some (.int .i64 j2),some (.int .i64 (4+i))]∧h'=h2∧∀k:Nat,k<i→Exq.sg (4+k)≠s[j]) ⟨by simp,rfl,fun _ hh=>absurd hh (by omega)⟩ ?_
   rintro J i _ h2 hJ hi ⟨rfl,rfl,hno⟩
   simp -implicitDefEqProofs (disch:=omega)[wrap64]
   by_cases hlt:i<6
   case neg=>
    rw[IteW_neg (by omega)]
    simp -implicitDefEqProofs (disch:=first|omega|(simp only[LnZ];omega))[wrap64,setC]
    refine RetK.keep (zz H.base fun x r hx e=>?_)
    obtain⟨_,k1,_,k2,_⟩:=key2 x r hx e
    refine hno (x.kind-4).toNat (by omega) ?_
    rw[k2];congr 1;omega
   rw[IteW_pos (by omega)]
   have hsl:=slcTx (l:=s) (k:=.i64) (k':=.i64) (a:=j) (b:=j+1) (by omega) (by omega)
   have e1:(s.drop j).take (j+1-j)=[s[j]]:=by
    rw[show j+1-j=1 by omega,List.drop_eq_getElem_cons hjl];rfl
   rw[e1] at hsl
   have hsl:sliceSV (.string (Tx s)) (some (some (.int .i64 (j:Int)))) (some (some (.int .i64 ((j:Int)+1))))=some (.string (Tx [s[j]])):=hsl
   simp -implicitDefEqProofs (disch:=first|omega|(simp only[LnZ];omega))[wrap64,hsl]
   refine (c_l1Sign (n:=4+i) (by omega) (by omega)).go ?_
   rintro _ h2 ⟨rfl,rfl⟩
   by_cases q6:Exq.sg (4+i)=s[j]
   ·have e6:Tx [Exq.sg (4+i)]=Tx [s[j]]:=by rw[q6]
    simp -implicitDefEqProofs (disch:=first|omega|(simp only[LnZ];omega))[wrap64,hsl,e6,q6,FY,FY2,setC,hOw,hCw,hOw2,hCw2]
    refine HS.blsO2 (H.sw1) rfl fun v h8 H=>?_
    have hO:=H.rep.one
    have hC:=H.rep.cells
    simp -implicitDefEqProofs (disch:=first|omega|(simp only[LnZ];omega))[wrap64,setC,hO,hC]
    refine RetK.keep (hk _ _ ⟨_,Exq.mk (4+i) 0 [y,y2],_,rfl,HS.mkExq' H ⟨by omega,by omega⟩ i0,.inr ⟨j2+1,by omega,by omega⟩,fun x r hx e=>?_⟩)
    obtain⟨k0,k1,k3,k2,k4,_⟩:=key2 x r hx e
    refine⟨exq_eta ?_ k3 k0.symm,by omega⟩
    rw[k2] at q6
    generalize x.kind=kd at *
    obtain rfl | rfl | rfl | rfl | rfl | rfl:kd=4∨kd=5∨kd=6∨kd=7∨kd=8∨kd=9:=by omega
    all_goals
     obtain rfl | rfl | rfl | rfl | rfl | rfl:i=0∨i=1∨i=2∨i=3∨i=4∨i=5:=by omega
     all_goals first | rfl | exact absurd q6 (by decide)
   ·have e6:¬Tx [Exq.sg (4+i)]=Tx [s[j]]:=fun hh=>q6 (by have:=Tx_inj.1 hh;exact (List.cons.inj this).1)
    simp -implicitDefEqProofs (disch:=first|omega|(simp only[LnZ];omega))[wrap64,hsl,e6,q6]
    refine hJ _ _ hlt ⟨by simp;omega,rfl,fun k hk=>?_⟩
    by_cases e:k=i
    ·rw[e];exact q6
    ·exact hno k (by omega)
  ·by_cases b1:(48:Int)≤c.toNat
   ·have b2:¬(c.toNat:Int)≤57:=by omega
    by_cases b3:(120:Int)≤c.toNat
    ·have b4:¬(c.toNat:Int)≤122:=by omega
     have b5:¬(c.toNat:Int)=33:=by omega
     have b6:¬(c.toNat:Int)=40:=by omega
     simp -implicitDefEqProofs (disch:=first|omega|(simp only[LnZ];omega))[wrap64,n1,hpi,hix,b1,b2,b3,b4,b5,b6,q3,q4,setC]
     refine RetK.keep (zz (Heap.le.refl _) fun x r hx e=>?_)
     have:=sm x r hx e
     omega
    ·have b5:¬(c.toNat:Int)=33:=by omega
     have b6:¬(c.toNat:Int)=40:=by omega
     simp -implicitDefEqProofs (disch:=first|omega|(simp only[LnZ];omega))[wrap64,n1,hpi,hix,b1,b2,b3,b5,b6,q3,q4,setC]
     refine RetK.keep (zz (Heap.le.refl _) fun x r hx e=>?_)
     have:=sm x r hx e
     omega
   ·have b3:¬(120:Int)≤c.toNat:=by omega
    have b5:¬(c.toNat:Int)=33:=by omega
    have b6:¬(c.toNat:Int)=40:=by omega
    simp -implicitDefEqProofs (disch:=first|omega|(simp only[LnZ];omega))[wrap64,n1,hpi,hix,b1,b3,b5,b6,q3,q4,setC]
    refine RetK.keep (zz (Heap.le.refl _) fun x r hx e=>?_)
    have:=sm x r hx e
    omega
end Go.Proofs.YtjbjnicobdpdhaaGreatDoor
