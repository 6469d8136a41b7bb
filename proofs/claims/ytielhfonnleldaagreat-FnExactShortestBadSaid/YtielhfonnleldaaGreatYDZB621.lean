/-
  Texts of this proof, one behind the other.
-/
import Derived.WalkKit
import Derived.ProofKit
import Derived.OpenShut
import Derived.Carry
import Derived.Deep.Slices
import Derived.SizedLaws
import Derived.Test.YtielhfonnleldaaGreatRows
import Derived.Test.YtielhfonnleldaaGreatYF7
set_option linter.all false
set_option linter.unusedVariables false
set_option linter.unusedSimpArgs false
set_option linter.defProp false
set_option maxRecDepth 1000000
namespace Go.Proofs.YtielhfonnleldaaGreat
open Go
universe u
theorem IteW_neg {p A B:Prop}(h:¬p):IteW p A B=B:=by simp[IteW,h]
section
variable {P:Program}{Q:Ex→Env→Heap→Prop}{e:Env}{h:Heap}
end
section
variable {a b c h h' r r':Heap}
end
section
variable {α:Type} [Ty α] {h h' r:Heap}{v:Value}{x:α}
end
section
variable {α:Type} [Ty α]
end
section
variable {α:Type} [Ty α]
end
section
variable {α:Type} [Ty α] {h h' g r:Heap}{v:Value}{l:List α}
end
section
variable {α:Type} [Ty α] {h h' g r r2 ru:Heap}{v u:Value}{l:List α}{i:Nat}
end
section
variable {α:Type} [Ty α] {P:Program}{k:Env→Heap→Prop}{e:Env}{h h' g r r2 ru rs:Heap}{v u:Value}{l l2:List α}{i:Nat}
end
section
variable {α:Type} [Ty α] {P:Program}{k:Env→Heap→Prop}{e:Env}{h g r:Heap}{v:Value}{l:List α}{i:Nat}
end
section
variable {P:Program}{e e':Env}{h:Heap}{Q:Ex→Env→Heap→Prop}{k:Env→Heap→Prop}
end
section
variable {g h h' r:Heap}
end
section
variable {α:Type} [Ty α] {P:Program}{k:Env→Heap→Prop}{e:Env}{g h:Heap}{Γ:List HP}{v u:Value}{l l2:List α}{i:Nat}
theorem HS.holeld (H:HS g (hole v l i u::Γ) h):hload h (some (elp (Ty.sz α) v i)) (szo α)=some u:=by
 obtain⟨g',r,rfl,d,Ho,H⟩:=H
 exact hload_le (le_add' d) (Hole.ld Ho)
end
section
variable {P:Program}{k:Env→Heap→Prop}{e:Env}{g h:Heap}{Γ:List HP}
end
def H_laws_FnExactShortestBad:Hint:=⟨[(0,false),(1,false),(2,true),(4,false),(5,false),(6,false),(7,false),(8,true),(9,false),(10,false),(11,false),(12,false),(13,false),(14,false),(15,false)],[]⟩
abbrev K4_1:C:=.seq (.pl <| .e 15 0 <|
 .x 3 (.mv (.c (.bool true))) .done) (.ret)
abbrev K4_2:C:=.seq (.pl <| .e 15 0 <|
 .x 3 (.mv (.c (.bool false))) .done) (.ret)
abbrev K4_3:C:=.cond 15 (.v 17) K4_2 (.skip)
abbrev K4_4:C:=.seq (.seq (.pl <| .e 15 3 <|
 .m 15 12 <|
 .m 16 11 <|
 .x 17 (.bin .neq (.v 15) (.v 16)) .done) K4_3) K4_1
abbrev K4_5:C:=.seq (.pl <| .e 15 0 <|
 .x 3 (.mv (.c (.bool false))) .done) (.ret)
abbrev K4_6:C:=.cond 15 (.v 16) K4_5 (.skip)
abbrev K4_7:C:=.seq (.seq (.pl <| .e 15 2 <|
 .m 15 12 <|
 .x 16 (.bin .lss (.v 15) (.c (.int .i64 0))) .done) K4_6) K4_4
abbrev K4_8:Pl:=.m 12 17 .done
abbrev K4_9:C:=.seq (.pl <| .e 15 3 <|
 .m 15 8 <|
 .m 16 12 <|
 .c 17 (.call fn_laws_heldIntS [.v 15,.v 16]) K4_8) K4_7
abbrev K4_10:C:=.seq (.pl <| .e 15 0 <|
 .x 12 (.mv (.c (.int .i64 1))) .done) K4_9
abbrev K4_11:C:=.seq (.pl <| .e 15 0 <|
 .x 3 (.mv (.c (.bool false))) .done) (.ret)
abbrev K4_12:C:=.cond 15 (.v 23) K4_11 (.skip)
abbrev K4_13:Pl:=.x 18 (.un .not (.v 17)) <|
 .m 19 18 <|
 .n 19 (.px (some 20) (.mv (.v 14))) <|
 .n 19 (.px (some 21) (.mv (.v 6))) <|
 .n 19 (.px (some 22) (.eqb true (.v 20) (.v 21))) <|
 .x 23 (.pick (.v 19) (.c (.bool true)) (.v 22)) .done
abbrev K4_14:C:=.seq (.seq (.pl <| .e 15 9 <|
 .m 15 13 <|
 .m 16 5 <|
 .c 17 (.call fn_laws_eqIntS [.v 15,.v 16]) K4_13) K4_12) K4_10
abbrev K4_15:Pl:=.m 19 18 <|
 .x 20 (.extract 0 (.v 19)) <|
 .x 21 (.extract 1 (.v 19)) <|
 .m 13 20 <|
 .m 14 21 .done
abbrev K4_16:Pl:=.m 17 1 <|
 .c 18 (.call fn_impl_ShortestBad [.v 16,.v 17]) K4_15
abbrev K4_17:C:=.seq (.pl <| .e 15 7 <|
 .o (.pget (some 15) none 2 0 (some 3)) <|
 .c 16 (.call fn_laws_toFormula [.v 15]) K4_16) K4_14
abbrev K4_18:C:=.seq (.pl <| .e 15 0 <|
 .x 3 (.mv (.c (.bool false))) .done) (.ret)
abbrev K4_19:C:=.cond 15 (.v 17) K4_18 (.skip)
abbrev K4_20:C:=.seq (.seq (.pl <| .e 15 3 <|
 .m 15 12 <|
 .m 16 11 <|
 .x 17 (.bin .neq (.v 15) (.v 16)) .done) K4_19) K4_17
abbrev K4_21:C:=.seq (.pl <| .e 15 0 <|
 .x 3 (.mv (.c (.bool false))) .done) (.ret)
abbrev K4_22:C:=.cond 15 (.v 16) K4_21 (.skip)
abbrev K4_23:C:=.seq (.seq (.pl <| .e 15 2 <|
 .m 15 12 <|
 .x 16 (.bin .lss (.v 15) (.c (.int .i64 0))) .done) K4_22) K4_20
abbrev K4_24:Pl:=.m 12 17 .done
abbrev K4_25:C:=.seq (.pl <| .e 15 3 <|
 .m 15 8 <|
 .m 16 12 <|
 .c 17 (.call fn_laws_heldIntS [.v 15,.v 16]) K4_24) K4_23
abbrev K4_26:C:=.seq (.pl <| .e 15 0 <|
 .x 12 (.mv (.c (.int .i64 1))) .done) K4_25
abbrev K4_27:Pl:=.m 11 17 .done
abbrev K4_28:C:=.seq (.pl <| .e 15 3 <|
 .m 15 8 <|
 .m 16 11 <|
 .c 17 (.call fn_laws_markIntS [.v 15,.v 16]) K4_27) K4_26
abbrev K4_29:C:=.seq (.pl <| .e 15 0 <|
 .x 11 (.mv (.c (.int .i64 1))) .done) K4_28
abbrev K4_30:C:=.seq (.pl <| .e 15 0 <|
 .x 3 (.mv (.c (.bool false))) .done) (.ret)
abbrev K4_31:C:=.cond 15 (.v 27) K4_30 (.skip)
abbrev K4_32:Pl:=.n 17 (.px (some 21) (.un .not (.v 20))) <|
 .x 22 (.pick (.v 17) (.c (.bool true)) (.v 21)) <|
 .m 23 22 <|
 .n 23 (.px (some 24) (.mv (.v 9))) <|
 .n 23 (.px (some 25) (.mv (.v 6))) <|
 .n 23 (.px (some 26) (.eqb true (.v 24) (.v 25))) <|
 .x 27 (.pick (.v 23) (.c (.bool true)) (.v 26)) .done
abbrev K4_33:C:=.seq (.seq (.pl <| .e 15 13 <|
 .m 15 10 <|
 .x 16 (.bin .lss (.v 15) (.c (.int .i64 0))) <|
 .m 17 16 <|
 .n 17 (.px (some 18) (.mv (.v 8))) <|
 .n 17 (.px (some 19) (.mv (.v 5))) <|
 .st (.act (some (.v 17,false)) (.ex (some 20) (.call fn_laws_eqIntS [.v 18,.v 19]))) K4_32) K4_31) K4_29
abbrev K4_34:Pl:=.m 10 17 .done
abbrev K4_35:C:=.seq (.pl <| .e 15 3 <|
 .o (.pget (some 15) none 7 0 (some 3)) <|
 .m 16 10 <|
 .c 17 (.call fn_laws_markFormula [.v 15,.v 16]) K4_34) K4_33
abbrev K4_36:C:=.seq (.pl <| .e 15 0 <|
 .x 10 (.mv (.c (.int .i64 1))) .done) K4_35
abbrev K4_37:C:=.seq (.pl <| .e 15 0 <|
 .x 3 (.mv (.c (.bool false))) .done) (.ret)
abbrev K4_38:C:=.cond 15 (.v 19) K4_37 (.skip)
abbrev K4_39:Pl:=.x 19 (.un .not (.v 18)) .done
abbrev K4_40:Pl:=.c 18 (.call fn_laws_eqFormula [.v 15,.v 17]) K4_39
abbrev K4_41:C:=.seq (.seq (.pl <| .e 15 5 <|
 .o (.pget (some 15) none 7 0 (some 3)) <|
 .o (.pget (some 16) none 2 0 (some 3)) <|
 .c 17 (.call fn_laws_toFormula [.v 16]) K4_40) K4_38) K4_36
abbrev K4_42:C:=.seq (.pl <| .e 15 0 <|
 .x 3 (.mv (.c (.bool false))) .done) (.ret)
abbrev K4_43:C:=.cond 15 (.v 23) K4_42 (.skip)
abbrev K4_44:Pl:=.x 18 (.un .not (.v 17)) <|
 .m 19 18 <|
 .n 19 (.px (some 20) (.mv (.v 9))) <|
 .n 19 (.px (some 21) (.mv (.v 6))) <|
 .n 19 (.px (some 22) (.eqb true (.v 20) (.v 21))) <|
 .x 23 (.pick (.v 19) (.c (.bool true)) (.v 22)) .done
abbrev K4_45:C:=.seq (.seq (.pl <| .e 15 9 <|
 .m 15 8 <|
 .m 16 5 <|
 .c 17 (.call fn_laws_eqIntS [.v 15,.v 16]) K4_44) K4_43) K4_41
abbrev K4_46:Pl:=.m 18 17 <|
 .x 19 (.extract 0 (.v 18)) <|
 .x 20 (.extract 1 (.v 18)) <|
 .m 8 19 <|
 .m 9 20 .done
abbrev K4_47:C:=.seq (.pl <| .e 15 6 <|
 .o (.pget (some 15) none 7 0 (some 3)) <|
 .m 16 1 <|
 .c 17 (.call fn_impl_ShortestBad [.v 15,.v 16]) K4_46) K4_45
abbrev K4_48:Pl:=.o (.pnew 7 (.c (.agg #[.int .i64 0,.int .i64 0,.slice none 0 0])) []) <|
 .o (.pset none 7 0 3 (.v 16)) .done
abbrev K4_49:C:=.seq (.pl <| .e 15 2 <|
 .o (.pget (some 15) none 2 0 (some 3)) <|
 .c 16 (.call fn_laws_toFormula [.v 15]) K4_48) K4_47
abbrev K4_50:Pl:=.m 19 18 <|
 .x 20 (.extract 0 (.v 19)) <|
 .x 21 (.extract 1 (.v 19)) <|
 .m 5 20 <|
 .m 6 21 .done
abbrev K4_51:Pl:=.m 17 1 <|
 .c 18 (.call fn_spec_ShortestBad [.v 16,.v 17]) K4_50
abbrev K4_52:C:=.seq (.pl <| .e 15 7 <|
 .o (.pget (some 15) none 2 0 (some 3)) <|
 .c 16 (.call fn_laws_toFormula [.v 15]) K4_51) K4_49
abbrev K4_53:C:=.seq (.pl <| .e 15 0 <|
 .x 3 (.mv (.c (.bool true))) .done) (.ret)
abbrev K4_54:C:=.cond 15 (.v 16) K4_53 (.skip)
abbrev K4_55:C:=.seq (.seq (.pl <| .e 15 2 <|
 .m 15 4 <|
 .x 16 (.bin .lss (.v 15) (.c (.int .i64 0))) .done) K4_54) K4_52
abbrev K4_56:Pl:=.m 4 17 .done
abbrev K4_57:C:=.seq (.pl <| .e 15 3 <|
 .o (.pget (some 15) none 2 0 (some 3)) <|
 .m 16 4 <|
 .c 17 (.call fn_laws_szFormula [.v 15,.v 16]) K4_56) K4_55
abbrev K4_58:C:=.seq (.pl <| .e 15 0 <|
 .x 4 (.mv (.c (.int .i64 1048576))) .done) K4_57
abbrev B_laws_FnExactShortestBad:C:=.seq (.pl <| .e 15 0 <|
 .o (.pnew 2 (.v 0) []) <|
 .x 3 (.mv (.c (.bool false))) .done) K4_58
def R_laws_FnExactShortestBad:FIR:=⟨B_laws_FnExactShortestBad,15,[(3,none)]⟩
theorem IR_laws_FnExactShortestBad:cfun Tryz.prog H_laws_FnExactShortestBad Tryz.f4=some R_laws_FnExactShortestBad:=by kernel_rfl
theorem EN_laws_FnExactShortestBad:ENT Tryz.prog B_laws_FnExactShortestBad [(3,none)] 2 15 fn_laws_FnExactShortestBad:=fun hargs hw=>enter Tryz.func4 rfl IR_laws_FnExactShortestBad hargs hw
def H_laws_eqFormula:Hint:=⟨[(0,false),(1,false),(2,true),(3,true),(4,false)],[]⟩
abbrev K21_1:C:=.seq (.pl <| .e 5 0 <|
 .x 4 (.mv (.c (.bool true))) .done) (.ret)
abbrev K21_2:C:=.seq (.pl <| .e 5 0 <|
 .x 4 (.mv (.c (.bool false))) .done) (.ret)
abbrev K21_3:C:=.cond 5 (.v 10) K21_2 (.skip)
abbrev K21_4:Pl:=.x 10 (.un .not (.v 9)) .done
abbrev K21_5:C:=.seq (.seq (.pl <| .e 5 6 <|
 .a 5 2 <|
 .g 6 5 2 2 <|
 .a 7 3 <|
 .g 8 7 3 2 <|
 .c 9 (.call fn_laws_eqFormulaS [.v 6,.v 8]) K21_4) K21_3) K21_1
abbrev K21_6:C:=.seq (.pl <| .e 5 0 <|
 .x 4 (.mv (.c (.bool false))) .done) (.ret)
abbrev K21_7:C:=.cond 5 (.v 9) K21_6 (.skip)
abbrev K21_8:C:=.seq (.seq (.pl <| .e 5 5 <|
 .a 5 2 <|
 .g 6 5 2 1 <|
 .a 7 3 <|
 .g 8 7 3 1 <|
 .x 9 (.bin .neq (.v 6) (.v 8)) .done) K21_7) K21_5
abbrev K21_9:C:=.seq (.pl <| .e 5 0 <|
 .x 4 (.mv (.c (.bool false))) .done) (.ret)
abbrev K21_10:C:=.cond 5 (.v 9) K21_9 (.skip)
abbrev K21_11:C:=.seq (.seq (.pl <| .e 5 5 <|
 .a 5 2 <|
 .g 6 5 2 0 <|
 .a 7 3 <|
 .g 8 7 3 0 <|
 .x 9 (.bin .neq (.v 6) (.v 8)) .done) K21_10) K21_8
abbrev B_laws_eqFormula:C:=.seq (.pl <| .e 5 0 <|
 .o (.pnew 2 (.v 0) []) <|
 .o (.pnew 3 (.v 1) []) <|
 .x 4 (.mv (.c (.bool false))) .done) K21_11
def R_laws_eqFormula:FIR:=⟨B_laws_eqFormula,5,[(4,none)]⟩
theorem IR_laws_eqFormula:cfun Tryz.prog H_laws_eqFormula Tryz.f21=some R_laws_eqFormula:=by kernel_rfl
theorem EN_laws_eqFormula:ENT Tryz.prog B_laws_eqFormula [(4,none)] 2 5 fn_laws_eqFormula:=fun hargs hw=>enter Tryz.func21 rfl IR_laws_eqFormula hargs hw
def H_laws_eqFormulaS:Hint:=⟨[(0,false),(1,false),(4,false),(5,false)],[[2]]⟩
abbrev K77_1:C:=.seq (.pl <| .e 4 0 <|
 .x 2 (.mv (.c (.bool true))) .done) (.ret)
abbrev K77_2:C:=.pl <| .e 4 2 <|
 .m 4 3 <|
 .x 5 (.bin .add (.v 4) (.c (.int .i64 1))) <|
 .m 3 5 .done
abbrev K77_3:C:=.seq (.pl <| .e 4 0 <|
 .x 2 (.mv (.c (.bool false))) .done) (.ret)
abbrev K77_4:C:=.cond 4 (.v 13) K77_3 (.skip)
abbrev K77_5:Pl:=.x 13 (.un .not (.v 12)) .done
abbrev K77_6:C:=.seq (.block 1 (.seq (.pl <| .e 4 10 <|
 .m 4 0 <|
 .m 5 3 <|
 .x 6 (.ia 3 (.v 4) (.v 5)) <|
 .o (.ld (some 7) (.v 6) (some 3)) <|
 .m 8 1 <|
 .m 9 3 <|
 .x 10 (.ia 3 (.v 8) (.v 9)) <|
 .o (.ld (some 11) (.v 10) (some 3)) <|
 .c 12 (.call fn_laws_eqFormula [.v 7,.v 11]) K77_5) K77_4)) K77_2
abbrev K77_7:C:=.cond 4 (.v 7) (.skip) (.exit 0)
abbrev K77_8:C:=.seq (.seq (.pl <| .e 4 4 <|
 .m 4 3 <|
 .m 5 0 <|
 .x 6 (.lenV (.v 5)) <|
 .x 7 (.bin .lss (.v 4) (.v 6)) .done) K77_7) K77_6
abbrev K77_9:C:=.block 0 (.loop 4 [2] K77_8)
abbrev K77_10:C:=.seq (.seq (.pl <| .e 4 0 <|
 .x 3 (.mv (.c (.int .i64 0))) .done) K77_9) K77_1
abbrev K77_11:C:=.seq (.pl <| .e 4 0 <|
 .x 2 (.mv (.c (.bool false))) .done) (.ret)
abbrev K77_12:C:=.cond 4 (.v 8) K77_11 (.skip)
abbrev K77_13:C:=.seq (.seq (.pl <| .e 4 5 <|
 .m 4 0 <|
 .x 5 (.lenV (.v 4)) <|
 .m 6 1 <|
 .x 7 (.lenV (.v 6)) <|
 .x 8 (.bin .neq (.v 5) (.v 7)) .done) K77_12) K77_10
abbrev B_laws_eqFormulaS:C:=.seq (.pl <| .e 4 0 <|
 .x 2 (.mv (.c (.bool false))) .done) K77_13
def R_laws_eqFormulaS:FIR:=⟨B_laws_eqFormulaS,4,[(2,none)]⟩
theorem IR_laws_eqFormulaS:cfun Tryz.prog H_laws_eqFormulaS Tryz.f77=some R_laws_eqFormulaS:=by kernel_rfl
theorem EN_laws_eqFormulaS:ENT Tryz.prog B_laws_eqFormulaS [(2,none)] 2 4 fn_laws_eqFormulaS:=fun hargs hw=>enter Tryz.func77 rfl IR_laws_eqFormulaS hargs hw
def H_laws_eqIntS:Hint:=⟨[(0,false),(1,false),(4,false),(5,false)],[[2]]⟩
abbrev K20_1:C:=.seq (.pl <| .e 4 0 <|
 .x 2 (.mv (.c (.bool true))) .done) (.ret)
abbrev K20_2:C:=.pl <| .e 4 2 <|
 .m 4 3 <|
 .x 5 (.bin .add (.v 4) (.c (.int .i64 1))) <|
 .m 3 5 .done
abbrev K20_3:C:=.seq (.pl <| .e 4 0 <|
 .x 2 (.mv (.c (.bool false))) .done) (.ret)
abbrev K20_4:C:=.cond 4 (.v 12) K20_3 (.skip)
abbrev K20_5:C:=.seq (.block 1 (.seq (.pl <| .e 4 9 <|
 .m 4 0 <|
 .m 5 3 <|
 .x 6 (.ia 1 (.v 4) (.v 5)) <|
 .l 7 6 <|
 .m 8 1 <|
 .m 9 3 <|
 .x 10 (.ia 1 (.v 8) (.v 9)) <|
 .l 11 10 <|
 .x 12 (.bin .neq (.v 7) (.v 11)) .done) K20_4)) K20_2
abbrev K20_6:C:=.cond 4 (.v 7) (.skip) (.exit 0)
abbrev K20_7:C:=.seq (.seq (.pl <| .e 4 4 <|
 .m 4 3 <|
 .m 5 0 <|
 .x 6 (.lenV (.v 5)) <|
 .x 7 (.bin .lss (.v 4) (.v 6)) .done) K20_6) K20_5
abbrev K20_8:C:=.block 0 (.loop 4 [2] K20_7)
abbrev K20_9:C:=.seq (.seq (.pl <| .e 4 0 <|
 .x 3 (.mv (.c (.int .i64 0))) .done) K20_8) K20_1
abbrev K20_10:C:=.seq (.pl <| .e 4 0 <|
 .x 2 (.mv (.c (.bool false))) .done) (.ret)
abbrev K20_11:C:=.cond 4 (.v 8) K20_10 (.skip)
abbrev K20_12:C:=.seq (.seq (.pl <| .e 4 5 <|
 .m 4 0 <|
 .x 5 (.lenV (.v 4)) <|
 .m 6 1 <|
 .x 7 (.lenV (.v 6)) <|
 .x 8 (.bin .neq (.v 5) (.v 7)) .done) K20_11) K20_9
abbrev B_laws_eqIntS:C:=.seq (.pl <| .e 4 0 <|
 .x 2 (.mv (.c (.bool false))) .done) K20_12
def R_laws_eqIntS:FIR:=⟨B_laws_eqIntS,4,[(2,none)]⟩
theorem IR_laws_eqIntS:cfun Tryz.prog H_laws_eqIntS Tryz.f20=some R_laws_eqIntS:=by kernel_rfl
theorem EN_laws_eqIntS:ENT Tryz.prog B_laws_eqIntS [(2,none)] 2 4 fn_laws_eqIntS:=fun hargs hw=>enter Tryz.func20 rfl IR_laws_eqIntS hargs hw
def H_laws_heldIntS:Hint:=⟨[(0,false),(1,false),(4,false),(5,false)],[[2]]⟩
abbrev K24_1:C:=.seq (.pl <| .e 4 1 <|
 .m 4 1 <|
 .m 2 4 .done) (.ret)
abbrev K24_2:C:=.pl <| .e 4 2 <|
 .m 4 3 <|
 .x 5 (.bin .add (.v 4) (.c (.int .i64 1))) <|
 .m 3 5 .done
abbrev K24_3:C:=.pl <| .e 4 2 <|
 .m 4 1 <|
 .x 5 (.bin .add (.v 4) (.c (.int .i64 1))) <|
 .m 1 5 .done
abbrev K24_4:C:=.seq (.pl <| .e 4 0 <|
 .x 2 (.mv (.c (.int .i64 (-1)))) .done) (.ret)
abbrev K24_5:C:=.cond 4 (.v 9) K24_4 (.skip)
abbrev K24_6:C:=.seq (.block 1 (.seq (.seq (.pl <| .e 4 6 <|
 .m 4 0 <|
 .m 5 3 <|
 .x 6 (.ia 1 (.v 4) (.v 5)) <|
 .l 7 6 <|
 .m 8 1 <|
 .x 9 (.bin .neq (.v 7) (.v 8)) .done) K24_5) K24_3)) K24_2
abbrev K24_7:C:=.cond 4 (.v 7) (.skip) (.exit 0)
abbrev K24_8:C:=.seq (.seq (.pl <| .e 4 4 <|
 .m 4 3 <|
 .m 5 0 <|
 .x 6 (.lenV (.v 5)) <|
 .x 7 (.bin .lss (.v 4) (.v 6)) .done) K24_7) K24_6
abbrev K24_9:C:=.block 0 (.loop 4 [2] K24_8)
abbrev K24_10:C:=.seq (.seq (.pl <| .e 4 0 <|
 .x 3 (.mv (.c (.int .i64 0))) .done) K24_9) K24_1
abbrev B_laws_heldIntS:C:=.seq (.pl <| .e 4 0 <|
 .x 2 (.mv (.c (.int .i64 0))) .done) K24_10
def R_laws_heldIntS:FIR:=⟨B_laws_heldIntS,4,[(2,none)]⟩
theorem IR_laws_heldIntS:cfun Tryz.prog H_laws_heldIntS Tryz.f24=some R_laws_heldIntS:=by kernel_rfl
theorem EN_laws_heldIntS:ENT Tryz.prog B_laws_heldIntS [(2,none)] 2 4 fn_laws_heldIntS:=fun hargs hw=>enter Tryz.func24 rfl IR_laws_heldIntS hargs hw
def H_laws_markFormula:Hint:=⟨[(0,false),(1,false),(2,true),(4,false)],[]⟩
abbrev K22_1:C:=.seq (.pl <| .e 4 1 <|
 .m 4 1 <|
 .m 3 4 .done) (.ret)
abbrev K22_2:Pl:=.m 1 7 .done
abbrev K22_3:C:=.seq (.pl <| .e 4 4 <|
 .a 4 2 <|
 .g 5 4 2 2 <|
 .m 6 1 <|
 .c 7 (.call fn_laws_markFormulaS [.v 5,.v 6]) K22_2) K22_1
abbrev B_laws_markFormula:C:=.seq (.pl <| .e 4 0 <|
 .o (.pnew 2 (.v 0) []) <|
 .x 3 (.mv (.c (.int .i64 0))) .done) K22_3
def R_laws_markFormula:FIR:=⟨B_laws_markFormula,4,[(3,none)]⟩
theorem IR_laws_markFormula:cfun Tryz.prog H_laws_markFormula Tryz.f22=some R_laws_markFormula:=by kernel_rfl
theorem EN_laws_markFormula:ENT Tryz.prog B_laws_markFormula [(3,none)] 2 4 fn_laws_markFormula:=fun hargs hw=>enter Tryz.func22 rfl IR_laws_markFormula hargs hw
def H_laws_markFormulaS:Hint:=⟨[(0,false),(1,false),(4,false),(5,false)],[[2]]⟩
abbrev K78_1:C:=.seq (.pl <| .e 4 1 <|
 .m 4 1 <|
 .m 2 4 .done) (.ret)
abbrev K78_2:C:=.pl <| .e 4 2 <|
 .m 4 3 <|
 .x 5 (.bin .add (.v 4) (.c (.int .i64 1))) <|
 .m 3 5 .done
abbrev K78_3:Pl:=.m 1 10 .done
abbrev K78_4:C:=.pl <| .e 4 7 <|
 .m 4 0 <|
 .m 5 3 <|
 .x 6 (.ia 3 (.v 4) (.v 5)) <|
 .x 7 (.fa 2 (.v 6)) <|
 .l 8 7 <|
 .m 9 1 <|
 .c 10 (.call fn_laws_markFormulaS [.v 8,.v 9]) K78_3
abbrev K78_5:C:=.seq (.pl <| .e 4 2 <|
 .m 4 1 <|
 .x 5 (.bin .add (.v 4) (.c (.int .i64 1))) <|
 .m 1 5 .done) K78_4
abbrev K78_6:C:=.seq (.pl <| .e 4 5 <|
 .m 4 0 <|
 .m 5 3 <|
 .m 6 1 <|
 .x 7 (.ia 3 (.v 4) (.v 5)) <|
 .x 8 (.fa 1 (.v 7)) <|
 .o (.ex none (.store 1 (.v 8) (.v 6))) .done) K78_5
abbrev K78_7:C:=.seq (.pl <| .e 4 2 <|
 .m 4 1 <|
 .x 5 (.bin .add (.v 4) (.c (.int .i64 1))) <|
 .m 1 5 .done) K78_6
abbrev K78_8:C:=.seq (.block 1 (.seq (.pl <| .e 4 5 <|
 .m 4 0 <|
 .m 5 3 <|
 .m 6 1 <|
 .x 7 (.ia 3 (.v 4) (.v 5)) <|
 .x 8 (.fa 0 (.v 7)) <|
 .o (.ex none (.store 1 (.v 8) (.v 6))) .done) K78_7)) K78_2
abbrev K78_9:C:=.cond 4 (.v 7) (.skip) (.exit 0)
abbrev K78_10:C:=.seq (.seq (.pl <| .e 4 4 <|
 .m 4 3 <|
 .m 5 0 <|
 .x 6 (.lenV (.v 5)) <|
 .x 7 (.bin .lss (.v 4) (.v 6)) .done) K78_9) K78_8
abbrev K78_11:C:=.block 0 (.loop 4 [2] K78_10)
abbrev K78_12:C:=.seq (.seq (.pl <| .e 4 0 <|
 .x 3 (.mv (.c (.int .i64 0))) .done) K78_11) K78_1
abbrev B_laws_markFormulaS:C:=.seq (.pl <| .e 4 0 <|
 .x 2 (.mv (.c (.int .i64 0))) .done) K78_12
def R_laws_markFormulaS:FIR:=⟨B_laws_markFormulaS,4,[(2,none)]⟩
theorem IR_laws_markFormulaS:cfun Tryz.prog H_laws_markFormulaS Tryz.f78=some R_laws_markFormulaS:=by kernel_rfl
theorem EN_laws_markFormulaS:ENT Tryz.prog B_laws_markFormulaS [(2,none)] 2 4 fn_laws_markFormulaS:=fun hargs hw=>enter Tryz.func78 rfl IR_laws_markFormulaS hargs hw
def H_laws_markIntS:Hint:=⟨[(0,false),(1,false),(4,false),(5,false)],[[2]]⟩
abbrev K23_1:C:=.seq (.pl <| .e 4 1 <|
 .m 4 1 <|
 .m 2 4 .done) (.ret)
abbrev K23_2:C:=.pl <| .e 4 2 <|
 .m 4 3 <|
 .x 5 (.bin .add (.v 4) (.c (.int .i64 1))) <|
 .m 3 5 .done
abbrev K23_3:C:=.pl <| .e 4 2 <|
 .m 4 1 <|
 .x 5 (.bin .add (.v 4) (.c (.int .i64 1))) <|
 .m 1 5 .done
abbrev K23_4:C:=.seq (.block 1 (.seq (.pl <| .e 4 4 <|
 .m 4 0 <|
 .m 5 3 <|
 .m 6 1 <|
 .x 7 (.ia 1 (.v 4) (.v 5)) <|
 .o (.ex none (.store 1 (.v 7) (.v 6))) .done) K23_3)) K23_2
abbrev K23_5:C:=.cond 4 (.v 7) (.skip) (.exit 0)
abbrev K23_6:C:=.seq (.seq (.pl <| .e 4 4 <|
 .m 4 3 <|
 .m 5 0 <|
 .x 6 (.lenV (.v 5)) <|
 .x 7 (.bin .lss (.v 4) (.v 6)) .done) K23_5) K23_4
abbrev K23_7:C:=.block 0 (.loop 4 [2] K23_6)
abbrev K23_8:C:=.seq (.seq (.pl <| .e 4 0 <|
 .x 3 (.mv (.c (.int .i64 0))) .done) K23_7) K23_1
abbrev B_laws_markIntS:C:=.seq (.pl <| .e 4 0 <|
 .x 2 (.mv (.c (.int .i64 0))) .done) K23_8
def R_laws_markIntS:FIR:=⟨B_laws_markIntS,4,[(2,none)]⟩
theorem IR_laws_markIntS:cfun Tryz.prog H_laws_markIntS Tryz.f23=some R_laws_markIntS:=by kernel_rfl
theorem EN_laws_markIntS:ENT Tryz.prog B_laws_markIntS [(2,none)] 2 4 fn_laws_markIntS:=fun hargs hw=>enter Tryz.func23 rfl IR_laws_markIntS hargs hw
def H_laws_szFormula:Hint:=⟨[(0,false),(1,false),(2,true),(4,false)],[]⟩
abbrev K16_1:C:=.seq (.pl <| .e 4 1 <|
 .m 4 1 <|
 .m 3 4 .done) (.ret)
abbrev K16_2:C:=.seq (.pl <| .e 4 0 <|
 .x 3 (.mv (.c (.int .i64 (-1)))) .done) (.ret)
abbrev K16_3:C:=.cond 4 (.v 5) K16_2 (.skip)
abbrev K16_4:C:=.seq (.seq (.pl <| .e 4 2 <|
 .m 4 1 <|
 .x 5 (.bin .lss (.v 4) (.c (.int .i64 0))) .done) K16_3) K16_1
abbrev K16_5:Pl:=.m 1 7 .done
abbrev K16_6:C:=.seq (.pl <| .e 4 4 <|
 .a 4 2 <|
 .g 5 4 2 2 <|
 .m 6 1 <|
 .c 7 (.call fn_laws_szFormulaS [.v 5,.v 6]) K16_5) K16_4
abbrev B_laws_szFormula:C:=.seq (.pl <| .e 4 0 <|
 .o (.pnew 2 (.v 0) []) <|
 .x 3 (.mv (.c (.int .i64 0))) .done) K16_6
def R_laws_szFormula:FIR:=⟨B_laws_szFormula,4,[(3,none)]⟩
theorem IR_laws_szFormula:cfun Tryz.prog H_laws_szFormula Tryz.f16=some R_laws_szFormula:=by kernel_rfl
theorem EN_laws_szFormula:ENT Tryz.prog B_laws_szFormula [(3,none)] 2 4 fn_laws_szFormula:=fun hargs hw=>enter Tryz.func16 rfl IR_laws_szFormula hargs hw
def H_laws_szFormulaS:Hint:=⟨[(0,false),(1,false),(4,false),(5,false)],[[2]]⟩
abbrev K66_1:C:=.seq (.pl <| .e 4 1 <|
 .m 4 1 <|
 .m 2 4 .done) (.ret)
abbrev K66_2:C:=.pl <| .e 4 2 <|
 .m 4 3 <|
 .x 5 (.bin .add (.v 4) (.c (.int .i64 1))) <|
 .m 3 5 .done
abbrev K66_3:C:=.seq (.pl <| .e 4 0 <|
 .x 2 (.mv (.c (.int .i64 (-1)))) .done) (.ret)
abbrev K66_4:C:=.cond 4 (.v 5) K66_3 (.skip)
abbrev K66_5:C:=.seq (.pl <| .e 4 2 <|
 .m 4 1 <|
 .x 5 (.bin .lss (.v 4) (.c (.int .i64 0))) .done) K66_4
abbrev K66_6:Pl:=.m 1 9 .done
abbrev K66_7:C:=.seq (.block 1 (.seq (.pl <| .e 4 6 <|
 .m 4 0 <|
 .m 5 3 <|
 .x 6 (.ia 3 (.v 4) (.v 5)) <|
 .o (.ld (some 7) (.v 6) (some 3)) <|
 .m 8 1 <|
 .c 9 (.call fn_laws_szFormula [.v 7,.v 8]) K66_6) K66_5)) K66_2
abbrev K66_8:C:=.cond 4 (.v 7) (.skip) (.exit 0)
abbrev K66_9:C:=.seq (.seq (.pl <| .e 4 4 <|
 .m 4 3 <|
 .m 5 0 <|
 .x 6 (.lenV (.v 5)) <|
 .x 7 (.bin .lss (.v 4) (.v 6)) .done) K66_8) K66_7
abbrev K66_10:C:=.block 0 (.loop 4 [2] K66_9)
abbrev K66_11:C:=.seq (.seq (.pl <| .e 4 0 <|
 .x 3 (.mv (.c (.int .i64 0))) .done) K66_10) K66_1
abbrev K66_12:C:=.seq (.pl <| .e 4 0 <|
 .x 2 (.mv (.c (.int .i64 (-1)))) .done) (.ret)
abbrev K66_13:C:=.cond 4 (.v 5) K66_12 (.skip)
abbrev K66_14:C:=.seq (.seq (.pl <| .e 4 2 <|
 .m 4 1 <|
 .x 5 (.bin .lss (.v 4) (.c (.int .i64 0))) .done) K66_13) K66_11
abbrev K66_15:C:=.seq (.pl <| .e 4 4 <|
 .m 4 1 <|
 .m 5 0 <|
 .x 6 (.lenV (.v 5)) <|
 .x 7 (.bin .sub (.v 4) (.v 6)) <|
 .m 1 7 .done) K66_14
abbrev B_laws_szFormulaS:C:=.seq (.pl <| .e 4 0 <|
 .x 2 (.mv (.c (.int .i64 0))) .done) K66_15
def R_laws_szFormulaS:FIR:=⟨B_laws_szFormulaS,4,[(2,none)]⟩
theorem IR_laws_szFormulaS:cfun Tryz.prog H_laws_szFormulaS Tryz.f66=some R_laws_szFormulaS:=by kernel_rfl
theorem EN_laws_szFormulaS:ENT Tryz.prog B_laws_szFormulaS [(2,none)] 2 4 fn_laws_szFormulaS:=fun hargs hw=>enter Tryz.func66 rfl IR_laws_szFormulaS hargs hw
def H_laws_toFormula:Hint:=⟨[(0,false),(1,true),(2,true),(3,true)],[]⟩
abbrev K18_1:C:=.seq (.pl <| .e 4 1 <|
 .o (.pget (some 4) none 3 0 (some 3)) <|
 .o (.pset none 2 0 3 (.v 4)) .done) (.ret)
abbrev K18_2:Pl:=.a 7 3 <|
 .o (.pset (some 7) 3 2 1 (.v 6)) .done
abbrev K18_3:C:=.seq (.pl <| .e 4 4 <|
 .a 4 1 <|
 .g 5 4 1 2 <|
 .c 6 (.call fn_laws_toFormulaS [.v 5]) K18_2) K18_1
abbrev K18_4:C:=.seq (.pl <| .e 4 3 <|
 .a 4 1 <|
 .g 5 4 1 1 <|
 .a 6 3 <|
 .o (.pset (some 6) 3 1 1 (.v 5)) .done) K18_3
abbrev K18_5:C:=.seq (.pl <| .e 4 3 <|
 .a 4 1 <|
 .g 5 4 1 0 <|
 .a 6 3 <|
 .o (.pset (some 6) 3 0 1 (.v 5)) .done) K18_4
abbrev K18_6:C:=.seq (.pl <| .e 4 0 <|
 .o (.pnew 3 (.c (.agg #[.int .i64 0,.int .i64 0,.slice none 0 0])) []) .done) K18_5
abbrev B_laws_toFormula:C:=.seq (.pl <| .e 4 0 <|
 .o (.pnew 1 (.v 0) []) <|
 .o (.pnew 2 (.c (.agg #[.int .i64 0,.int .i64 0,.slice none 0 0])) []) .done) K18_6
def R_laws_toFormula:FIR:=⟨B_laws_toFormula,4,[(2,some (some 3))]⟩
theorem IR_laws_toFormula:cfun Tryz.prog H_laws_toFormula Tryz.f18=some R_laws_toFormula:=by kernel_rfl
theorem EN_laws_toFormula:ENT Tryz.prog B_laws_toFormula [(2,some (some 3))] 1 4 fn_laws_toFormula:=fun hargs hw=>enter Tryz.func18 rfl IR_laws_toFormula hargs hw
def H_laws_toFormulaS:Hint:=⟨[(0,false),(2,false),(3,false),(4,false)],[[1]]⟩
abbrev K70_1:C:=.seq (.pl <| .e 4 1 <|
 .m 4 2 <|
 .m 1 4 .done) (.ret)
abbrev K70_2:C:=.pl <| .e 4 2 <|
 .m 4 3 <|
 .x 5 (.bin .add (.v 4) (.c (.int .i64 1))) <|
 .m 3 5 .done
abbrev K70_3:Pl:=.x 11 (.ia 3 (.v 4) (.v 5)) <|
 .o (.ex none (.store 3 (.v 11) (.v 10))) .done
abbrev K70_4:C:=.seq (.block 1 (.pl <| .e 4 8 <|
 .m 4 2 <|
 .m 5 3 <|
 .m 6 0 <|
 .m 7 3 <|
 .x 8 (.ia 3 (.v 6) (.v 7)) <|
 .o (.ld (some 9) (.v 8) (some 3)) <|
 .c 10 (.call fn_laws_toFormula [.v 9]) K70_3)) K70_2
abbrev K70_5:C:=.cond 4 (.v 7) (.skip) (.exit 0)
abbrev K70_6:C:=.seq (.seq (.pl <| .e 4 4 <|
 .m 4 3 <|
 .m 5 0 <|
 .x 6 (.lenV (.v 5)) <|
 .x 7 (.bin .lss (.v 4) (.v 6)) .done) K70_5) K70_4
abbrev K70_7:C:=.block 0 (.loop 4 [1] K70_6)
abbrev K70_8:C:=.seq (.seq (.pl <| .e 4 0 <|
 .x 3 (.mv (.c (.int .i64 0))) .done) K70_7) K70_1
abbrev K70_9:Pl:=.m 2 6 .done
abbrev K70_10:C:=.seq (.pl <| .e 4 3 <|
 .m 4 0 <|
 .x 5 (.lenV (.v 4)) <|
 .c 6 (.mks 40 3 [.int .i64 0,.int .i64 0,.slice none 0 0] (.v 5) (.v 5)) K70_9) K70_8
abbrev B_laws_toFormulaS:C:=.seq (.pl <| .e 4 0 <|
 .x 1 (.mv (.c (.slice none 0 0))) .done) K70_10
def R_laws_toFormulaS:FIR:=⟨B_laws_toFormulaS,4,[(1,none)]⟩
theorem IR_laws_toFormulaS:cfun Tryz.prog H_laws_toFormulaS Tryz.f70=some R_laws_toFormulaS:=by kernel_rfl
theorem EN_laws_toFormulaS:ENT Tryz.prog B_laws_toFormulaS [(1,none)] 1 4 fn_laws_toFormulaS:=fun hargs hw=>enter Tryz.func70 rfl IR_laws_toFormulaS hargs hw
section
variable {α:Type} [Ty α] {h:Heap}{v:Value}
end
section
variable {h:Heap}{v:Value}
end
section
variable {α:Type} [Ty α] {h:Heap}{v:Value}{l:List α}{i:Nat}
end
section
variable {g h:Heap}{Γ:List HP}
end
theorem szL_take {α:Type} [Sz α]:∀{l:List α}{i:Nat}(hi:i<l.length),szL (l.take (i+1))=szL (l.take i)+Sz.sz l[i]
 | x::l,0,_=>by simp[szL]
 | x::l,i+1,hi=>by
  have:=szL_take (l:=l) (i:=i) (by simpa using hi)
  simp[szL,this];omega
section
variable {α:Type} [Mk α]
theorem cntL_take:∀(l:List α) (i:Nat) (hi:i<l.length),cntL (l.take (i+1))=cntL (l.take i)+Mk.cnt l[i]
 | [],i,hi=>by simp at hi
 | x::l,0,_=>by simp[cntL]
 | x::l,i+1,hi=>by
  simp only[List.take_succ_cons,cntL,List.getElem_cons_succ]
  rw[cntL_take l i (by simpa using hi)]
  omega
theorem cntL_le:∀(l:List α) (i:Nat),cntL (l.take i)≤cntL l
 | [],i=>by simp[cntL]
 | x::l,0=>by simp[cntL]
 | x::l,i+1=>by
  simp only[List.take_succ_cons,cntL]
  have:=cntL_le l i
  omega
end
section
variable {α:Type} [Mk α] {k:Int}{x y:List α}{i:Nat}
end
section
variable {α:Type} [Ty α] {h:Heap}{v:Value}{l:List α}{i:Nat}
end
theorem setC_get {cs c:List Value}{n j:Nat}(h:n+c.length≤cs.length):(setC cs n c)[j]? = if j<n then cs[j]? else if j<n+c.length then c[j-n]? else cs[j]?:=by
 unfold setC
 simp only[List.getElem?_append,List.getElem?_take,List.getElem?_drop,List.length_append,List.length_take]
 rw[Nat.min_eq_left (by omega:n≤cs.length)]
 by_cases h1:j<n
 ·rw[if_pos (by omega),if_pos h1,if_pos h1,if_pos h1]
 ·by_cases h2:j<n+c.length
  ·rw[if_pos h2,if_neg h1,if_neg h1,if_pos h2]
  ·rw[if_neg h2,if_neg h1,if_neg h2]
   congr 1;omega
theorem setC_over {cs d c:List Value}{n fo:Nat}(hd:fo+d.length≤c.length) (hl:n+c.length≤cs.length):setC (setC cs (n+fo) d) n c=setC cs n c:=by
 apply List.ext_getElem?
 intro j
 rw[setC_get (by rw[setC_length (by omega)];exact hl),setC_get hl,setC_get (by omega)]
 by_cases h1:j<n
 ·rw[if_pos h1,if_pos h1,if_pos (by omega)]
 ·by_cases h2:j<n+c.length
  ·rw[if_neg h1,if_neg h1,if_pos h2,if_pos h2]
  ·rw[if_neg h1,if_neg h1,if_neg h2,if_neg h2,if_neg (by omega),if_neg (by omega)]
theorem setC_slot {cs d:List Value}{n fo m:Nat}(hd:fo+d.length≤m) (hl:n+m≤cs.length):((setC cs (n+fo) d).drop n).take m=setC ((cs.drop n).take m) fo d:=by
 apply List.ext_getElem?
 intro j
 rw[setC_get (by simp;omega)]
 simp only[List.getElem?_take,List.getElem?_drop]
 by_cases h1:j<m
 ·rw[if_pos h1,if_pos h1,setC_get (by omega)]
  by_cases h2:j<fo
  ·rw[if_pos (by omega),if_pos h2]
  ·by_cases h3:j<fo+d.length
   ·rw[if_neg (by omega),if_pos (by omega),if_neg h2,if_pos h3]
    congr 1;omega
   ·rw[if_neg (by omega),if_neg (by omega),if_neg h2,if_neg h3]
 ·rw[if_neg h1,if_neg h1,if_neg (by omega),if_neg (by omega)]
section
variable {α:Type} [Ty α] {P:Program}{k:Env→Heap→Prop}{e:Env}{g h:Heap}{Γ:List HP}{v w:Value}{l:List α}{i:Nat}{cs:List Value}
theorem HS.holest (H:HS g (hole v l i (.agg cs.toArray)::Γ) h) (ha:Ty.agg α=true) {a x:O}{n fo m:Nat}(hn:n=Ty.sz α) (hp:a.get e=some (elpo n v i fo)) (hx:x.get e=some w) (hu:w.cells.size=m) (hu1:allOne w.cells.toList=true) (hf:fo+m≤n)
  (K:∀h',HS g (hole v l i (.agg (setC cs fo w.cells.toList).toArray)::Γ) h'→k e h'):(A.ex none (.store m a x)).wp P k e h:=by
 subst hn
 obtain⟨g',r,rfl,d,Ho,H⟩:=H
 obtain⟨b,off,cap,cells,el,r',rfl,hi,⟨h1,hM⟩,h2,rfl,h4,h5,h6⟩:=Ho
 have hs:=slot_le (s:=Ty.sz α) hi h1
 obtain⟨d3,d4⟩:=Dj_add.1 d
 have hb:(g'.add ((Heap.one b (.cells cells.toArray el (0,0))).add r')) b=some (.cells cells.toArray el (0,0)):=by
  have:=Dj_one.1 d3
  simp[Heap.add,Heap.one,this,h4]
 have hw:w.cells.toList.length=m:=by simpa using hu
 have hcs:cs=((cells.drop off).drop (i*Ty.sz α)).take (Ty.sz α):=by
  simpa[valC,ha] using h5
 have hdr:(setC cells (off+i*Ty.sz α+fo) w.cells.toList).drop off=setC (cells.drop off) (i*Ty.sz α+fo) w.cells.toList:=by
  rw[Nat.add_assoc,drop_setC (by rw[hw];omega)]
 refine⟨b,off+i*Ty.sz α+fo,w,g'.add ((Heap.one b (.cells (setC cells (off+i*Ty.sz α+fo) w.cells.toList).toArray el (0,0))).add r'),?_,hx,hu,?_,
  Fgt.keep (K _ ⟨g',_,rfl,Dj_add.2 ⟨Dj_one.2 (Dj_one.1 d3),d4⟩,⟨b,off,cap,_,el,r',rfl,hi,⟨h1,hM⟩,?_,rfl,h4,?_,?_⟩,H⟩)⟩
 ·rw[hp];simp[elpo,add_none]
 ·unfold hstore
  rw[hb]
  simp only
  rw[if_pos (by refine⟨trivial,?_,?_⟩;· simp[hu];omega
                ·rw[allOne_eq];exact hu1),add_one_set (Dj_one.1 d3) h4]
 ·rw[setC_length (by rw[hw];omega)];exact h2
 ·rw[hdr,setC_slot (by rw[hw];exact hf) (by simp;omega),← hcs]
  simp[valC,ha]
 ·intro r1' c' y dd o
  have hlen:=Ty.len (Ty.own_rep o)
  rw[hdr,setC_over (by rw[hw,hlen];exact hf) (by rw[hlen];simp;omega)]
  exact h6 r1' c' y dd o
theorem HS.holeP (H:HS g (hole v l i (.agg cs.toArray)::Γ) h) (ha:Ty.agg α=true) {n:Nat}(hn:n=Ty.sz α):hload h (some (elp n v i)) (some n)=some (.agg cs.toArray):=by
 have:=H.holeld
 subst hn
 simpa[szo,ha] using this
end
section
variable {α:Type} [Ty α]
end
section
variable {α:Type} [Ty α] {h:Heap}{l:List α}{f:α→α}{M:List (Mix α)}{i:Nat}
end
theorem Exq.cnts_eq:∀l,Exq.cnts l=Mk.cnt l
 | []=>rfl
 | x::l=>by
  have:=Exq.cnts_eq l
  simp only[Exq.cnts,this]
  rfl
theorem Exq.wrs_eq:∀k l,Exq.wrs k l=Mk.wr k l
 | _,[]=>rfl
 | k,x::l=>by
  have:=Exq.wrs_eq (k+x.cnt) l
  simp only[Exq.wrs,this]
  rfl
theorem cnt_Exq (x:Exq):Mk.cnt x=2+Mk.cnt x.kids:=by
 cases x with
 | mk k v l=>show 2+Exq.cnts l=_;rw[Exq.cnts_eq];rfl
theorem wr_Exq (k:Int) (x:Exq):Mk.wr k x=Exq.mk k (k+1) (Mk.wr (k+2) x.kids):=by
 cases x with
 | mk kd v l=>show Exq.mk k (k+1) (Exq.wrs (k+2) l)=_;rw[Exq.wrs_eq];rfl
theorem own_zeroE:Ty.own Heap.nil [.int .i64 0,.int .i64 0,.slice none 0 0] Exq.zero:=ownExq.2 ⟨_,rfl,i64_0,i64_0,Own_nils⟩
theorem c_toFormulaS_of {h:Heap}{a:Value}{x:List Exq}(ih:∀y∈x,∀{h:Heap}{v:Value},Rep h v y→Sz.sz y≤1048576→CallE Tryz.prog fn_laws_toFormula [v] h (fun u h'=>HS h [ow u y] h')) (Ra:Rep h a x) (hs:Sz.sz x≤1048576):CallE Tryz.prog fn_laws_toFormulaS [a] h (fun v h'=>HS h [ow v x] h'):=by
 rw[sz_list] at hs
 refine CallE.gen fun k hk=>EN_laws_toFormulaS rfl ?_
 simp -implicitDefEqProofs (disch:=first|omega|(simp only[LnZ];omega))[wrap64,Ra.len]
 refine HS.init.mks (α:=Exq) (z:=Exq.zero) rfl rfl (own_zeroE) (Nat.le_refl _) (by omega) (by omega) fun v h1 H=>?_
 simp -implicitDefEqProofs (disch:=omega)[wrap64]
 refine wp_count x.length (fun i e h'=>e=[some a,none,some v,some (.int .i64 i)]∧∃y,HS h [ow v y] h'∧y.length=x.length∧y.take i=x.take i) ⟨rfl,_,H,by simp,by simp⟩ ?_
 clear H
 rintro J i _ h2 hJ hi ⟨rfl,y,H,hl,hy⟩
 simp -implicitDefEqProofs (disch:=first|omega|(simp only[LnZ];omega))[wrap64,Ra.len]
 refine IteW.mk (fun hlt=>?_) (fun hge=>?_)
 ·have hlx:i<x.length:=by omega
  obtain⟨u,hu,Ru⟩:=(Ra.on H).ld hlx
  change hload _ (some (elp 3 a i)) (some 3)=some u at hu
  have hsi:=szL_get hlx
  simp -implicitDefEqProofs (disch:=first|omega|(simp only[LnZ];omega))[wrap64,Ra.X (n:=3) rfl,hu]
  refine (ih _ (List.getElem_mem hlx) Ru (by omega)).go ?_
  intro w h3 G
  have H:=G.app H
  simp -implicitDefEqProofs (disch:=first|omega|(simp only[LnZ];omega))[wrap64,H.sw1.rep.X (n:=3) rfl,G.rep.aExq]
  refine HS.store H (by omega) rfl rfl rfl fun h4 H=>?_
  simp -implicitDefEqProofs (disch:=omega)[wrap64]
  exact hJ _ _ hlx ⟨rfl,_,H,by simp[hl],take_set_succ hy hlx hl⟩
 ·simp -implicitDefEqProofs (disch:=omega)[wrap64]
  refine RetK.keep (hk _ _ ?_)
  rw[← eq_of_take hy (by omega) hl];exact H
theorem c_toFormula:∀(x:Exq) {h:Heap}{v:Value},Rep h v x→Sz.sz x≤1048576→CallE Tryz.prog fn_laws_toFormula [v] h (fun u h'=>HS h [ow u x] h'):=by
 refine Exq.ind fun x ih h v R hs=>?_
 obtain⟨w,rfl,k1,k2,R1⟩:=Rep_Exq.1 R
 rw[sz_Exq] at hs
 refine CallE.gen fun k hk=>EN_laws_toFormula rfl ?_
 simp -implicitDefEqProofs (disch:=first|omega|(simp only[LnZ];omega))[wrap64,setC]
 refine (c_toFormulaS_of ih R1 hs).go ?_
 intro u h1 G
 simp -implicitDefEqProofs (disch:=first|omega|(simp only[LnZ];omega))[wrap64,setC,G.rep.cells,G.rep.one]
 exact RetK.keep (hk _ _ (G.mkExq k1 k2))
theorem c_szFormulaS_of {h:Heap}{a:Value}{x:List Exq}(ih:∀y∈x,∀{h:Heap}{a:Value},Rep h a y→∀{n:Int},0≤n∧n≤1048576→CallE Tryz.prog fn_laws_szFormula [a,.int .i64 n] h (fun v h'=>h'=h∧∃m:Int,v=.int .i64 m∧(m = -1∨(0≤m∧m+Sz.sz y=n)))) (Ra:Rep h a x) {n:Int}(hn:0≤n∧n≤1048576):CallE Tryz.prog fn_laws_szFormulaS [a,.int .i64 n] h (fun v h'=>h'=h∧∃m:Int,v=.int .i64 m∧(m = -1∨(0≤m∧m+Sz.sz x=n))):=by
 rw[sz_list]
 refine CallE.gen fun k hk=>EN_laws_szFormulaS rfl ?_
 have hL:=Ra.lt
 simp -implicitDefEqProofs (disch:=first|omega|(simp only[LnZ];omega))[wrap64,Ra.len]
 refine IteW.mk (fun hlt=>?_) (fun hge=>?_)
 ·simp -implicitDefEqProofs (disch:=omega)[wrap64]
  exact RetK.keep (hk _ _ ⟨rfl,_,rfl,.inl rfl⟩)
 simp -implicitDefEqProofs (disch:=omega)[wrap64]
 refine wp_count x.length (fun i e h'=>h'=h∧∃m:Int,e=[some a,some (.int .i64 m),none,some (.int .i64 i)]∧0≤m∧m+x.length+szL (x.take i)=n) ⟨rfl,_,rfl,by omega,by simp[szL]⟩ ?_
 rintro J i _ _ hJ hi ⟨rfl,m,rfl,hm,hmn⟩
 simp -implicitDefEqProofs (disch:=first|omega|(simp only[LnZ];omega))[wrap64,Ra.len]
 refine IteW.mk (fun hlt=>?_) (fun hge2=>?_)
 ·have hlx:i<x.length:=by omega
  obtain⟨u,hu,Ru⟩:=Ra.ld hlx
  change hload _ (some (elp 3 a i)) (some 3)=some u at hu
  simp -implicitDefEqProofs (disch:=first|omega|(simp only[LnZ];omega))[wrap64,Ra.X (n:=3) rfl,hu]
  refine (ih _ (List.getElem_mem hlx) Ru (n:=m) (by omega)).go ?_
  rintro _ _ ⟨rfl,m2,rfl,q⟩
  simp -implicitDefEqProofs (disch:=omega)[wrap64]
  refine IteW.mk (fun hlt=>?_) (fun hge=>?_)
  ·simp -implicitDefEqProofs (disch:=omega)[wrap64]
   exact RetK.keep (hk _ _ ⟨rfl,_,rfl,.inl rfl⟩)
  ·simp -implicitDefEqProofs (disch:=omega)[wrap64]
   exact hJ _ _ hlx ⟨rfl,_,rfl,by omega,by rw[szL_take hlx];omega⟩
 ·simp -implicitDefEqProofs (disch:=omega)[wrap64]
  rw[List.take_of_length_le (by omega)] at hmn
  exact RetK.keep (hk _ _ ⟨rfl,_,rfl,.inr (by omega)⟩)
theorem c_szFormula:∀(x:Exq) {h:Heap}{a:Value},Rep h a x→∀{n:Int},0≤n∧n≤1048576→CallE Tryz.prog fn_laws_szFormula [a,.int .i64 n] h (fun v h'=>h'=h∧∃m:Int,v=.int .i64 m∧(m = -1∨(0≤m∧m+Sz.sz x=n))):=by
 refine Exq.ind fun x ih h a R n hn=>?_
 obtain⟨w,rfl,k1,k2,R1⟩:=Rep_Exq.1 R
 rw[sz_Exq]
 refine CallE.gen fun k hk=>EN_laws_szFormula rfl ?_
 simp -implicitDefEqProofs (disch:=omega)[wrap64]
 refine (c_szFormulaS_of ih R1 hn).go ?_
 rintro _ _ ⟨rfl,m,rfl,q⟩
 simp -implicitDefEqProofs (disch:=omega)[wrap64]
 refine IteW.mk (fun hlt=>?_) (fun hge=>?_)
 ·simp -implicitDefEqProofs (disch:=omega)[wrap64]
  exact RetK.keep (hk _ _ ⟨rfl,_,rfl,.inl rfl⟩)
 ·simp -implicitDefEqProofs (disch:=omega)[wrap64]
  exact RetK.keep (hk _ _ ⟨rfl,_,rfl,.inr (by omega)⟩)
theorem c_eqFormulaS_of {h:Heap}{a b:Value}{x y:List Exq}(ih:∀z∈x,∀{h:Heap}{a b:Value}{w:Exq},Rep h a z→Rep h b w→CallE Tryz.prog fn_laws_eqFormula [a,b] h (fun v h'=>h'=h∧v=.bool (decide (z=w)))) (Ra:Rep h a x) (Rb:Rep h b y):CallE Tryz.prog fn_laws_eqFormulaS [a,b] h (fun v h'=>h'=h∧v=.bool (decide (x=y))):=by
 refine CallE.gen fun k hk=>EN_laws_eqFormulaS rfl ?_
 have hL:=Ra.lt
 simp -implicitDefEqProofs (disch:=first|omega|(simp only[LnZ];omega))[wrap64,Ra.len,Rb.len]
 refine IteW.mkr (fun hne=>?_) (fun heq=>?_)
 ·simp -implicitDefEqProofs (disch:=omega)[wrap64]
  exact RetK.keep (hk _ _ ⟨rfl,by simp;rintro rfl;exact hne rfl⟩)
 simp -implicitDefEqProofs (disch:=omega)[wrap64]
 refine wp_count x.length (fun i e h'=>h'=h∧e=[some a,some b,none,some (.int .i64 i)]∧x.take i=y.take i) ⟨rfl,rfl,rfl⟩ ?_
 rintro J i _ _ hJ hi ⟨rfl,rfl,hxy⟩
 simp -implicitDefEqProofs (disch:=first|omega|(simp only[LnZ];omega))[wrap64,Ra.len]
 refine IteW.mk (fun hlt=>?_) (fun hge=>?_)
 ·have hly:i<y.length:=by omega
  have hlx:i<x.length:=by omega
  obtain⟨u,hu,Ru⟩:=Ra.ld hlx
  obtain⟨w,hw,Rw⟩:=Rb.ld hly
  change hload _ (some (elp 3 a i)) (some 3)=some u at hu
  change hload _ (some (elp 3 b i)) (some 3)=some w at hw
  simp -implicitDefEqProofs (disch:=first|omega|(simp only[LnZ];omega))[wrap64,Ra.X (n:=3) rfl,Rb.X (n:=3) rfl,hu,hw]
  refine (ih _ (List.getElem_mem hlx) Ru Rw).go ?_
  rintro _ _ ⟨rfl,rfl⟩
  simp -implicitDefEqProofs (disch:=omega)[wrap64]
  refine IteW.mkr (fun hne=>?_) (fun heq=>?_)
  ·simp -implicitDefEqProofs (disch:=omega)[wrap64]
   exact RetK.keep (hk _ _ ⟨rfl,by simp;rintro rfl;exact hne rfl⟩)
  simp -implicitDefEqProofs (disch:=omega)[wrap64]
  exact hJ _ _ hlx ⟨rfl,rfl,take_step hxy hlx hly heq⟩
 ·simp -implicitDefEqProofs (disch:=omega)[wrap64]
  refine RetK.keep (hk _ _ ⟨rfl,?_⟩)
  simp
  rw[List.take_of_length_le (by omega),List.take_of_length_le (by omega)] at hxy
  exact hxy
theorem c_eqFormula':∀(x:Exq) {h:Heap}{a b:Value}{y:Exq},Rep h a x→Rep h b y→CallE Tryz.prog fn_laws_eqFormula [a,b] h (fun v h'=>h'=h∧v=.bool (decide (x=y))):=by
 refine Exq.ind fun x ih h a b y Ra Rb=>?_
 obtain⟨w,rfl,k1,k2,R1⟩:=Rep_Exq.1 Ra
 obtain⟨w2,rfl,k3,k4,R2⟩:=Rep_Exq.1 Rb
 refine CallE.gen fun k hk=>EN_laws_eqFormula rfl ?_
 simp -implicitDefEqProofs (disch:=omega)[wrap64]
 refine IteW.mkr (fun h1=>?_) (fun h1=>?_)
 ·simp -implicitDefEqProofs (disch:=omega)[wrap64]
  exact RetK.keep (hk _ _ ⟨rfl,by simp[Exq.ext_iff',h1]⟩)
 simp -implicitDefEqProofs (disch:=omega)[wrap64]
 refine IteW.mkr (fun h2=>?_) (fun h2=>?_)
 ·simp -implicitDefEqProofs (disch:=omega)[wrap64]
  exact RetK.keep (hk _ _ ⟨rfl,by simp[Exq.ext_iff',h2]⟩)
 simp -implicitDefEqProofs (disch:=omega)[wrap64]
 refine (c_eqFormulaS_of ih R1 R2).go ?_
 rintro _ _ ⟨rfl,rfl⟩
 simp -implicitDefEqProofs (disch:=omega)[wrap64]
 refine IteW.mkr (fun h3=>?_) (fun h3=>?_)
 ·simp -implicitDefEqProofs (disch:=omega)[wrap64]
  exact RetK.keep (hk _ _ ⟨rfl,by simp[Exq.ext_iff',h3]⟩)
 simp -implicitDefEqProofs (disch:=omega)[wrap64]
 exact RetK.keep (hk _ _ ⟨rfl,by simp[Exq.ext_iff',h1,h2,h3]⟩)
theorem c_eqFormula {x:Exq}{h:Heap}{a b:Value}{y:Exq}(Ra:Rep h a x) (Rb:Rep h b y):CallE Tryz.prog fn_laws_eqFormula [a,b] h (fun v h'=>h'=h∧v=.bool (decide (x=y))):=c_eqFormula' x Ra Rb
end Go.Proofs.YtielhfonnleldaaGreat

namespace Go.Proofs.YtielhfonnleldaaGreat
open Go Go.RowKit
section
variable {H:Type}{enc:TypeId×Value→H}{P:Program}
end
section
variable {P:Program}{t:TypeId}
theorem rd_int (ht:P.underlying t=some (.int .i64)):RdT P t Int:=by
 intro H enc W sp fuel cs x h hwt
 cases fuel with
 | zero=>simp[DataW.trod] at h
 | succ n=>
  unfold DataW.trod at h
  rw[ht] at h
  split at h
  case h_2 k k' m h1=>
   simp only[Option.some.injEq,TypeDesc.int.injEq] at h1
   subst h1
   split at h
   case isTrue hc=>
    obtain⟨rfl,hw⟩:=hc
    have:=bounds_i64 hw
    exact⟨_,rfl,by omega,by omega⟩
   case isFalse=>simp at h
  all_goals simp_all
theorem rd_two {α β:Type} [Ty α] [Ty β] {h:Heap}{cs:List Value}(h1:∃x:α,Ty.rep h (cs.take (Ty.sz α)) x) (h2:∃y:β,Ty.rep h (cs.drop (Ty.sz α)) y):∃z:α×β,Ty.rep h cs z:=by
 obtain⟨x,hx⟩:=h1
 obtain⟨y,hy⟩:=h2
 exact⟨(x,y),_,_,(List.take_append_drop _ cs).symm,hx,hy⟩
end
section
variable {P:Program}{W:World}{r:Reach}{base:Nat}{t e:TypeId}{v:Value}
theorem okWide_int {k:IntKind}(ht:P.underlying t=some (.int k)) (h:Value.okWide P W r base t v):∃n,v=.int k n∧True:=by
 unfold Value.okWide at h
 rw[ht] at h
 simp only[Cell.okWide,ht] at h
 cases v<;>simp[Cell.ok,ht] at h ⊢
 exact h.1
end
end Go.Proofs.YtielhfonnleldaaGreat

namespace Go.Proofs.YtielhfonnleldaaGreat
open Go Go.RowKit
def RdF (P:Program) (t:TypeId) (α:Type) [Ty α] (fuel:Nat):Prop:=∀{H:Type}(enc:TypeId×Value→H) (W:World) (sp:Nat→Bool) (cs:List Value) (x:DataW H×List MemPlace),
 DataW.trod enc P W 0 sp true fuel t cs=some x→wOk P t x.1→∃y:α,Ty.rep (whole W) cs y
theorem rd_listF {P:Program}{t:TypeId}{α:Type} [Ty α] {e:TypeId}(ht:P.underlying t=some (.slice e)) (hc:P.cellsOf e=Ty.sz α) (hpos:0<Ty.sz α) (hby:0<P.bytesOf e) {fuel:Nat}(he:∀n,n<fuel→RdF P e α n):RdF P t (List α) fuel:=by
 intro H enc W sp cs x h hwt
 rcases DataW.trod_slice ht h with ⟨rfl,_⟩ | ⟨a,len,cap,elems,rest,n,hfu,rfl,rfl,hb,hlc,hm,hlen,hel,hsp,hns⟩
 ·exact⟨[],none,0,rfl,by simp,trivial,fun i hi=>by simp at hi⟩
 ·simp only[wOk,DataW.weights,ht,List.mem_cons,List.mem_append] at hwt
  have hsz:len≤reachBytes:=by
   have h1:=hwt _ (.inl rfl)
   simp only[List.length_map] at h1
   have h2:len*1≤(elems.length+rest.length)*P.bytesOf e:=Nat.mul_le_mul (by omega) hby
   omega
  have hwe:=wOk_all (fun n hn=>hwt n (.inr (.inl hn)))
  have hall:∀i,i<len→∃y:α,∃b off vs,some a=some (⟨b,off,none⟩:Addr)∧hcells (whole W) b (off+i*Ty.sz α) (Ty.sz α)=some vs∧Ty.rep (whole W) vs y:=by
   intro i hi
   have hget:∀i,(hi:i<len)→∃cs',W.cells? 0 (a.add (i*P.cellsOf e)) (P.cellsOf e)=some cs'∧DataW.trod enc P W 0 sp true n e cs'=some (elems[i]'(by omega)):=by
    intro i hi
    have h1:=hel i hi
    rw[List.getElem?_eq_getElem (by omega)] at h1
    exact Option.bind_eq_some_iff.1 h1
   obtain⟨cs',h1,h2⟩:=hget i hi
   obtain⟨y,hy⟩:=he n (by omega) enc W sp cs' _ h2 (hwe _ (List.mem_map.2 ⟨_,List.getElem_mem (by omega),rfl⟩))
   obtain⟨b,off,spot⟩:=a
   rw[hc] at h1
   have h0:spot=none:=by
    cases spot with
    | none=>rfl
    | some s=>
     obtain⟨cs0,g1,_⟩:=hget 0 (by omega)
     rw[hc] at g1
     simp only[Nat.zero_mul,Addr.add,if_true] at g1
     rw[cells_spot hpos] at g1
     simp at g1
   subst h0
   rw[addr_add0] at h1
   exact⟨y,b,off,cs',rfl,cells_whole h1,hy⟩
  have hch:∃l:List α,l.length=len∧∀i (hi:i<l.length),∃b off vs,some a=some (⟨b,off,none⟩:Addr)∧hcells (whole W) b (off+i*Ty.sz α) (Ty.sz α)=some vs∧Ty.rep (whole W) vs l[i]:=by
   refine⟨(List.finRange len).map fun i=>Classical.choose (hall i.1 i.2),by simp,fun i hi=>?_⟩
   have hi':i<len:=by simpa using hi
   have:=Classical.choose_spec (hall i hi')
   simpa using this
  obtain⟨l,hl,hr⟩:=hch
  refine⟨l,some a,cap,by rw[hl],⟨by omega,?_⟩,trivial,hr⟩
  have:reachBytes<4611686018427387904:=by decide
  omega
end Go.Proofs.YtielhfonnleldaaGreat

namespace Go.Proofs.YtielhfonnleldaaGreat
open Go Go.RowKit Go.ChangeShapes
theorem laid:laidOutB Tryz.prog=true:=by kernel_rfl
theorem own0:ownKnob Tryz.prog.godebug=none:=by kernel_rfl
theorem rdF_Exq:∀fuel,RdF Tryz.prog 49 Exq fuel:=by
 intro fuel
 induction fuel using Nat.strongRecOn with
 | _ fuel ih=>
 intro H enc W sp cs x h hwt
 obtain⟨xs,n,hfu,rfl,hlen,hxs,hf⟩:=DataW.trod_struct Tryz.underlying49 h
 rw[show Tryz.prog.cellsOf 49=3 from by kernel_rfl] at hlen
 simp only[wOk,DataW.weights,Tryz.underlying49] at hwt
 have hw:=wOk_each hwt
 have hxs:xs.length=3:=hxs
 have F0:∃y:Int,Ty.rep (whole W) ((cs.drop 0).take 1) y:=by
  have h1:=hf 0 _ rfl
  rw[show Tryz.prog.cellsOf _=1 from by kernel_rfl,List.getElem?_eq_getElem (by omega:0<xs.length)] at h1
  exact rd_int Tryz.underlying3 enc W sp n _ _ h1 (hw 0 _ _ rfl (by simp[hxs]))
 have F1:∃y:Int,Ty.rep (whole W) ((cs.drop 1).take 1) y:=by
  have h1:=hf 1 _ rfl
  rw[show Tryz.prog.cellsOf _=1 from by kernel_rfl,List.getElem?_eq_getElem (by omega:1<xs.length)] at h1
  exact rd_int Tryz.underlying3 enc W sp n _ _ h1 (hw 1 _ _ rfl (by simp[hxs]))
 have F2:∃y:List Exq,Ty.rep (whole W) ((cs.drop 2).take 1) y:=by
  have h1:=hf 2 _ rfl
  rw[show Tryz.prog.cellsOf _=1 from by kernel_rfl,List.getElem?_eq_getElem (by omega:2<xs.length)] at h1
  exact rd_listF (α:=Exq) Tryz.underlying47 (by kernel_rfl) (by decide) (by rw[show Tryz.prog.bytesOf 49=40 from by kernel_rfl];decide) (fun m hm=>ih m (by omega)) enc W sp _ _ h1 (hw 2 _ _ rfl (by simp[hxs]))
 have G2:∃y:List Exq,Ty.rep (whole W) (cs.drop 2) y:=by
  rw[List.take_of_length_le (by simp;omega)] at F2
  exact F2
 have G1:∃y:Int×List Exq,Ty.rep (whole W) (cs.drop 1) y:=rd_two F1 (by rw[List.drop_drop];exact G2)
 have G0:∃y:Int×Int×List Exq,Ty.rep (whole W) (cs.drop 0) y:=rd_two F0 (by rw[List.drop_drop];exact G1)
 obtain⟨z,hz⟩:=G0
 exact⟨Exq.mk z.1 z.2.1 z.2.2,Exq.rep_iff.2 hz⟩
theorem rd_Exq:RdT Tryz.prog 49 Exq:=fun enc W sp fuel cs x h hw=>rdF_Exq fuel enc W sp cs x h hw
theorem c_eqIntS {h:Heap}{a b:Value}{x y:List Int}(Ra:Rep h a x) (Rb:Rep h b y):CallE Tryz.prog fn_laws_eqIntS [a,b] h (fun v h'=>h'=h∧v=.bool (decide (x=y))):=by
 refine CallE.gen fun k hk=>EN_laws_eqIntS rfl ?_
 have hL:=Ra.lt
 simp -implicitDefEqProofs (disch:=first|omega|(simp only[LnZ];omega))[wrap64,Ra.len,Rb.len]
 refine IteW.mkr (fun hne=>?_) (fun heq=>?_)
 ·simp -implicitDefEqProofs (disch:=omega)[wrap64]
  exact RetK.keep (hk _ _ ⟨rfl,by simp;rintro rfl;exact hne rfl⟩)
 simp -implicitDefEqProofs (disch:=omega)[wrap64]
 refine wp_count x.length (fun i e h'=>h'=h∧e=[some a,some b,none,some (.int .i64 i)]∧x.take i=y.take i) ⟨rfl,rfl,rfl⟩ ?_
 rintro J i _ _ hJ hi ⟨rfl,rfl,hxy⟩
 simp -implicitDefEqProofs (disch:=first|omega|(simp only[LnZ];omega))[wrap64,Ra.len]
 refine IteW.mk (fun hlt=>?_) (fun hge=>?_)
 ·have hly:i<y.length:=by omega
  have hlx:i<x.length:=by omega
  simp -implicitDefEqProofs (disch:=first|omega|(simp only[LnZ];omega))[wrap64,Ra.I,Rb.I]
  refine IteW.mkr (fun hne=>?_) (fun heq=>?_)
  ·simp -implicitDefEqProofs (disch:=omega)[wrap64]
   exact RetK.keep (hk _ _ ⟨rfl,by simp;rintro rfl;exact hne rfl⟩)
  simp -implicitDefEqProofs (disch:=omega)[wrap64]
  exact hJ _ _ hlx ⟨rfl,rfl,take_step hxy hlx hly heq⟩
 ·simp -implicitDefEqProofs (disch:=omega)[wrap64]
  refine RetK.keep (hk _ _ ⟨rfl,?_⟩)
  simp
  rw[List.take_of_length_le (by omega),List.take_of_length_le (by omega)] at hxy
  exact hxy
theorem c_markIntS {g h:Heap}{Γ:List HP}{v:Value}{x:List Int}{k0:Int}(H:HS g (ow v x::Γ) h) (hk0:0≤k0) (hk1:k0+Mk.cnt x<4611686018427387904):CallE Tryz.prog fn_laws_markIntS [v,.int .i64 k0] h (fun u h'=>HS g (ow v (Mk.wr k0 x)::Γ) h'∧u=.int .i64 (k0+Mk.cnt x)):=by
 refine CallE.gen fun k hk=>EN_laws_markIntS rfl ?_
 simp -implicitDefEqProofs (disch:=omega)[wrap64]
 refine wp_count x.length (fun i e h'=>e=[some v,some (.int .i64 (k0+cntL (x.take i))),none,some (.int .i64 i)]∧∃y,HS g (ow v y::Γ) h'∧Mkd k0 x y i) ⟨by simp[cntL],x,H,Mkd.zero⟩ ?_
 rintro J i _ h2 hJ hi ⟨rfl,y,H,M⟩
 have hl:=M.len
 have hL:=H.rep.lt
 have hcx:Mk.cnt x=cntL x:=rfl
 simp -implicitDefEqProofs (disch:=first|omega|(simp only[LnZ];omega))[wrap64,H.rep.len]
 refine IteW.mk (fun hlt=>?_) (fun hge=>?_)
 ·have hlx:i<x.length:=by omega
  have hly:i<y.length:=by omega
  have hb:=cntL_le x (i+1)
  have hc:=cntL_take x i hlx
  have h1:Mk.cnt x[i]=1:=rfl
  have h4:IntKind.i64.wrap (k0+(cntL (x.take i):Nat)+1)=k0+(cntL (x.take i):Nat)+1:=wrap64 (by omega) (by omega)
  simp -implicitDefEqProofs (disch:=first|omega|(simp only[LnZ];omega))[wrap64,H.rep.I]
  refine H.storeF (k0+cntL (x.take i)) hly rfl rfl ⟨by omega,by omega⟩ rfl fun h3 H=>?_
  simp -implicitDefEqProofs (disch:=omega)[wrap64]
  refine hJ _ _ hlx ⟨?_,_,H,M.step hlx⟩
  rw[hc,h1];push_cast;simp[Int.add_assoc]
 ·simp -implicitDefEqProofs (disch:=omega)[wrap64]
  have h2:x.take i=x:=List.take_of_length_le (by omega)
  refine RetK.keep (hk _ _ ⟨?_,by rw[h2];rfl⟩)
  have h3:y=Mk.wr k0 x:=M.all (by omega)
  rw[← h3];exact H
theorem c_heldIntS {h:Heap}{v:Value}{x:List Int}{k0:Int}(Rv:Rep h v x) (hk0:0≤k0) (hk1:k0+Mk.cnt x<4611686018427387904):CallE Tryz.prog fn_laws_heldIntS [v,.int .i64 k0] h (fun u h'=>h'=h∧u=.int .i64 (if Mk.wr k0 x=x then k0+Mk.cnt x else -1)):=by
 refine CallE.gen fun k hk=>EN_laws_heldIntS rfl ?_
 have hL:=Rv.lt
 have hcx:Mk.cnt x=cntL x:=rfl
 simp -implicitDefEqProofs (disch:=omega)[wrap64]
 refine wp_count x.length (fun i e h'=>h'=h∧e=[some v,some (.int .i64 (k0+cntL (x.take i))),none,some (.int .i64 i)]∧(mkL k0 x).take i=x.take i) ⟨rfl,by simp[cntL],rfl⟩ ?_
 rintro J i _ _ hJ hi ⟨rfl,rfl,M⟩
 simp -implicitDefEqProofs (disch:=first|omega|(simp only[LnZ];omega))[wrap64,Rv.len]
 refine IteW.mk (fun hlt=>?_) (fun hge=>?_)
 ·have hlx:i<x.length:=by omega
  have hb:=cntL_le x (i+1)
  have hc:=cntL_take x i hlx
  have hg:=mkL_get k0 x i hlx
  have h1:Mk.cnt x[i]=1:=rfl
  obtain⟨q,hq⟩:∃q,q=k0+cntL (x.take i):=⟨_,rfl⟩
  rw[← hq] at hg ⊢
  simp -implicitDefEqProofs (disch:=first|omega|(simp only[LnZ];omega))[wrap64,Rv.I]
  refine IteW.mk (fun hq2=>?_) (fun hq2=>?_)
  ·simp -implicitDefEqProofs (disch:=omega)[wrap64]
   refine hJ _ _ hlx ⟨rfl,by rw[hc,h1,hq];push_cast;simp[Int.add_assoc],take_step M (by simpa using hlx) hlx ?_⟩
   rw[hg]
   exact hq2.symm
  ·simp -implicitDefEqProofs (disch:=omega)[wrap64]
   refine RetK.keep (hk _ _ ⟨rfl,?_⟩)
   rw[if_neg]
   intro he
   have he2:mkL k0 x=x:=he
   simp only[he2] at hg
   exact hq2 hg
 ·simp -implicitDefEqProofs (disch:=omega)[wrap64]
  have h2:x.take i=x:=List.take_of_length_le (by omega)
  rw[List.take_of_length_le (by simp;omega),h2] at M
  exact RetK.keep (hk _ _ ⟨rfl,by rw[h2];exact congrArg _ (if_pos M).symm⟩)
theorem cnt_ints (l:List Int):Mk.cnt l=l.length:=by
 induction l with
 | nil=>rfl
 | cons b r ih=>show 1+cntL r=_;have:cntL r=Mk.cnt r:=rfl;rw[this,ih];simp;omega
theorem c_markFormulaS':∀(x0:Exq) {g h:Heap}{Γ:List HP}{v:Value}{k0:Int},HS g (ow v x0.kids::Γ) h→0≤k0→k0+Mk.cnt x0.kids<4611686018427387904 →
  CallE Tryz.prog fn_laws_markFormulaS [v,.int .i64 k0] h (fun u h'=>HS g (ow v (Mk.wr k0 x0.kids)::Γ) h'∧u=.int .i64 (k0+Mk.cnt x0.kids)):=by
 refine Exq.ind fun x0 ih g h Γ v k0 H hk0 hk1=>?_
 generalize hx0:x0.kids=x at *
 refine CallE.gen fun k hk=>EN_laws_markFormulaS rfl ?_
 simp -implicitDefEqProofs (disch:=omega)[wrap64]
 refine wp_count x.length (fun i e h'=>e=[some v,some (.int .i64 (k0+cntL (x.take i))),none,some (.int .i64 i)]∧∃y,HS g (ow v y::Γ) h'∧Mkd k0 x y i) ⟨by simp[cntL],x,H,Mkd.zero⟩ ?_
 rintro J i _ h2 hJ hi ⟨rfl,y,H,M⟩
 have hl:=M.len
 have hL:=H.rep.lt
 have hcx:Mk.cnt x=cntL x:=rfl
 simp -implicitDefEqProofs (disch:=first|omega|(simp only[LnZ];omega))[wrap64,H.rep.len]
 refine IteW.mk (fun hlt=>?_) (fun hge=>?_)
 ·have hlx:i<x.length:=by omega
  have hly:i<y.length:=by omega
  have hb:=cntL_le x (i+1)
  have hc:=cntL_take x i hlx
  have hce:=cnt_Exq x[i]
  have hwe:=wr_Exq (k0+cntL (x.take i)) x[i]
  have M':=M.step hlx
  obtain⟨q,hq⟩:∃q,q=k0+cntL (x.take i):=⟨_,rfl⟩
  obtain⟨u,hu,H⟩:=HS.take H hly
  rw[M.get hlx] at H
  obtain⟨w,rfl,k1,k2,H⟩:=H.unExq
  have hia:=HS.holeia H.sw1 (n:=3) (kd:=.i64) rfl hly
  have hP:=hld_parts (HS.holeP H.sw1 (n:=3) rfl rfl)
  rw[← hq] at hwe M' ⊢
  simp -implicitDefEqProofs (disch:=first|omega|(simp only[LnZ];omega))[wrap64,hia,hP.1]
  refine HS.holest H.sw1 rfl (n:=3) rfl rfl rfl rfl rfl (by decide) fun h3 H=>?_
  replace H:HS g (hole v y i (.agg #[.int .i64 q,.int .i64 x[i].val,w])::ow w x[i].kids::Γ) h3:=H
  have hP:=hld_parts (HS.holeP H (n:=3) rfl rfl)
  simp -implicitDefEqProofs (disch:=first|omega|(simp only[LnZ];omega))[wrap64,hia,hP.1]
  refine HS.holest H rfl (n:=3) rfl rfl rfl rfl rfl (by decide) fun h4 H=>?_
  replace H:HS g (hole v y i (.agg #[.int .i64 q,.int .i64 (q+1),w])::ow w x[i].kids::Γ) h4:=H
  have hP:=hld_parts (HS.holeP H (n:=3) rfl rfl)
  simp -implicitDefEqProofs (disch:=first|omega|(simp only[LnZ];omega))[wrap64,hia,hP.1,hP.2.2.1]
  refine (ih x[i] (List.getElem_mem hlx) (k0:=q+1+1) H.sw1 (by omega) (by omega)).go ?_
  rintro _ h5 ⟨H,rfl⟩
  have H:=HS.put (H.mkExq' (kd:=q) (vl:=q+1) ⟨by omega,by omega⟩ ⟨by omega,by omega⟩)
  simp -implicitDefEqProofs (disch:=omega)[wrap64]
  refine hJ _ _ hlx ⟨?_,_,H,?_⟩
  ·simp only[List.cons.injEq,Option.some.injEq,Value.int.injEq,true_and,and_true]
   refine⟨?_,by simp⟩
   rw[hc];push_cast;omega
  ·rw[hwe,show q+2=q+1+1 by omega] at M'
   exact M'
 ·simp -implicitDefEqProofs (disch:=omega)[wrap64]
  have h2:x.take i=x:=List.take_of_length_le (by omega)
  refine RetK.keep (hk _ _ ⟨?_,by rw[h2];rfl⟩)
  have h3:y=Mk.wr k0 x:=M.all (by omega)
  rw[← h3];exact H
theorem c_markFormulaS {g h:Heap}{Γ:List HP}{v:Value}{x:List Exq}{k0:Int}(H:HS g (ow v x::Γ) h) (hk0:0≤k0) (hk1:k0+Mk.cnt x<4611686018427387904) :
  CallE Tryz.prog fn_laws_markFormulaS [v,.int .i64 k0] h (fun u h'=>HS g (ow v (Mk.wr k0 x)::Γ) h'∧u=.int .i64 (k0+Mk.cnt x)):=c_markFormulaS' (Exq.mk 0 0 x) H hk0 hk1
theorem cnt_cons {α:Type} [Mk α] (x:α) (l:List α):Mk.cnt (x::l)=Mk.cnt x+Mk.cnt l:=rfl
theorem cnt_le {α:Type} [Mk α] [Sz α] {c:Nat}:∀{l:List α},(∀x∈l,Mk.cnt x≤c*(1+Sz.sz x))→Mk.cnt l≤c*Sz.sz l
 | [],_=>by show 0≤_;omega
 | x::l,h=>by
  have h1:=cnt_le (l:=l) fun y hy=>h y (by simp[hy])
  have h2:=h x (by simp)
  rw[cnt_cons,sz_cons,Nat.mul_add]
  omega
theorem cnt_Formula':∀x:Exq,Mk.cnt x.kids≤2*Sz.sz x.kids:=by
 refine Exq.ind fun x ih=>cnt_le fun y hy=>?_
 have h1:=ih y hy
 rw[cnt_Exq,sz_Exq];omega
theorem c_markFormula {g h:Heap}{Γ:List HP}{v:Value}{x:Exq}{k0:Int}(H:HS g (ow v x::Γ) h) (hk0:0≤k0) (hk1:k0+Mk.cnt x.kids<4611686018427387904) :
  CallE Tryz.prog fn_laws_markFormula [v,.int .i64 k0] h (fun u h'=>HS g (ow v (Exq.mk x.kind x.val (Mk.wr k0 x.kids))::Γ) h'∧u=.int .i64 (k0+Mk.cnt x.kids)):=by
 obtain⟨w,rfl,k1,k2,H⟩:=H.unExq
 refine CallE.gen fun k hk=>EN_laws_markFormula rfl ?_
 simp -implicitDefEqProofs (disch:=omega)[wrap64]
 refine (c_markFormulaS H hk0 hk1).go ?_
 rintro _ h1 ⟨H,rfl⟩
 simp -implicitDefEqProofs (disch:=omega)[wrap64]
 exact RetK.keep (hk _ _ ⟨HS.mkExq' H k1 k2,rfl⟩)
theorem cnt_Formula {x:Exq}(h:Sz.sz x≤1048576):Mk.cnt x.kids≤2097152:=by
 have h1:=cnt_Formula' x
 rw[sz_Exq] at h
 omega
theorem bnd_ShortestBad {a0:Exq}{a1:Int}:Mk.cnt ((sbR a0 a1).getD [])≤4194304:=by
 rw[cnt_ints]
 cases h:sbR a0 a1 with
 | none=>simp
 | some W=>
  have:=(sbR_some h).2.2.2.1
  rw[Option.getD_some];omega
set_option maxHeartbeats 4000000 in
theorem c_FnExactShortestBad {h:Heap}{v0:Value}{a0:Exq}(R0:Rep h v0 a0) {a1:Int}(hI:I64 a1):CallE Tryz.prog fn_laws_FnExactShortestBad [v0,.int .i64 a1] h (fun u h'=>h.le h'∧u=.bool true):=by
 refine CallE.gen fun k hk=>EN_laws_FnExactShortestBad rfl ?_
 have F0:=R0.aExq
 simp -implicitDefEqProofs (disch:=first|omega|(simp only[LnZ];omega))[wrap64,F0]
 refine (c_szFormula _ R0 (n:=1048576) (by omega)).go ?_
 rintro _ h ⟨rfl,l0,rfl,q0⟩
 simp -implicitDefEqProofs (disch:=first|omega|(simp only[LnZ];omega))[wrap64,F0]
 refine IteW.mk (fun hlt=>?_) (fun hge0=>?_)
 ·simp -implicitDefEqProofs (disch:=omega)[wrap64]
  exact RetK.keep (hk _ _ ⟨Heap.le.refl _,rfl⟩)
 have qq0:Sz.sz a0≤1048576:=by omega
 have hc0:=cnt_Formula (x:=a0) (by omega)
 have hcy:=bnd_ShortestBad (a0:=a0) (a1:=a1)
 have H:HS h [] h:=HS.init
 simp -implicitDefEqProofs (disch:=first|omega|(simp only[LnZ];omega))[wrap64,F0]
 refine (c_toFormula _ R0 (by omega)).go ?_
 intro s0 m1 G
 have H:=G.app H
 have F1:=H.rep.aExq
 simp -implicitDefEqProofs (disch:=first|omega|(simp only[LnZ];omega))[wrap64,F0,F1]
 refine (c_spec_ShortestBad H.rep hI).go ?_
 rintro _ m3 ⟨w0,rfl,G⟩
 have H:=G.app H
 have H:=H.only
 generalize hB:(sbR a0 a1).isSome=B at *
 simp -implicitDefEqProofs (disch:=first|omega|(simp only[LnZ];omega))[wrap64,F0,F1]
 refine (c_toFormula _ (R0.on H) (by omega)).go ?_
 intro x0 m4 G
 have H:=G.app H
 have F2:=H.rep.aExq
 simp -implicitDefEqProofs (disch:=first|omega|(simp only[LnZ];omega))[wrap64,F0,F1,F2]
 refine (c_ShortestBad H.rep hI).go ?_
 rintro _ m6 ⟨g0,rfl,G⟩
 have H:=G.app H
 rw[hB]
 simp -implicitDefEqProofs (disch:=first|omega|(simp only[LnZ];omega))[wrap64,F0,F1,F2]
 refine (c_eqIntS H.rep H.sw2.rep).go ?_
 rintro _ _ ⟨rfl,rfl⟩
 simp -implicitDefEqProofs (disch:=first|omega|(simp only[LnZ];omega))[wrap64,F0,F1,F2]
 refine (c_toFormula _ (R0.on H) (by omega)).go ?_
 intro t0 m7 G
 have H:=G.app H
 have F3:=H.rep.aExq
 simp -implicitDefEqProofs (disch:=first|omega|(simp only[LnZ];omega))[wrap64,F0,F1,F2,F3]
 refine (c_eqFormula H.sw2.rep H.rep).go ?_
 rintro _ _ ⟨rfl,rfl⟩
 have H:=H.drop
 simp -implicitDefEqProofs (disch:=first|omega|(simp only[LnZ];omega))[wrap64,F0,F1,F2,F3]
 refine (c_markFormula (k0:=1) H.sw1 (by omega) (by omega)).go ?_
 rintro _ m9 ⟨H,rfl⟩
 have hneg:¬((1+(Mk.cnt a0.kids:Nat):Int)<0):=by omega
 simp -implicitDefEqProofs (disch:=first|omega|(simp only[LnZ];omega))[wrap64,F0,F1,F2,F3,hneg]
 refine (c_eqIntS H.sw1.rep H.sw2.rep).go ?_
 rintro _ _ ⟨rfl,rfl⟩
 simp -implicitDefEqProofs (disch:=first|omega|(simp only[LnZ];omega))[wrap64,F0,F1,F2,F3,hneg]
 refine (c_markIntS (k0:=1) H.sw1 (by omega) (by omega)).go ?_
 rintro _ m11 ⟨H,rfl⟩
 have hcw:=fun y:List Int=>Mk.cnt_wr 1 y
 simp -implicitDefEqProofs (disch:=first|omega|(simp only[LnZ];omega))[wrap64,F0,F1,F2,F3,hneg]
 refine (c_heldIntS (k0:=1) H.rep (by omega) (by rw[hcw];omega)).go ?_
 rintro _ _ ⟨rfl,rfl⟩
 rw[if_pos (Mk.wr_wr 1 1 _),hcw]
 simp -implicitDefEqProofs (disch:=first|omega|(simp only[LnZ];omega))[wrap64,F0,F1,F2,F3,hneg]
 rw[IteW_neg (by omega)]
 simp -implicitDefEqProofs (disch:=first|omega|(simp only[LnZ];omega))[wrap64,F0,F1,F2,F3,hneg]
 refine (c_toFormula _ (R0.on H) (by omega)).go ?_
 intro y0 m12 G
 have H:=G.app H
 have F5:=H.rep.aExq
 simp -implicitDefEqProofs (disch:=first|omega|(simp only[LnZ];omega))[wrap64,F0,F1,F2,F3,hneg,F5]
 refine (c_ShortestBad H.rep hI).go ?_
 rintro _ m14 ⟨z0,rfl,G⟩
 have H:=G.app H
 rw[hB]
 simp -implicitDefEqProofs (disch:=first|omega|(simp only[LnZ];omega))[wrap64,F0,F1,F2,F3,hneg,F5]
 have H:HS h [ow z0 ((sbR a0 a1).getD []),ow y0 a0,ow g0 (Mk.wr 1 ((sbR a0 a1).getD [])),ow x0 (Exq.mk a0.kind a0.val (Mk.wr 1 a0.kids)),ow w0 ((sbR a0 a1).getD [])] m14:=H
 refine (c_eqIntS H.rep H.sw4.rep).go ?_
 rintro _ _ ⟨rfl,rfl⟩
 simp -implicitDefEqProofs (disch:=first|omega|(simp only[LnZ];omega))[wrap64,F0,F1,F2,F3,hneg,F5]
 refine (c_heldIntS (k0:=1) H.sw2.rep (by omega) (by rw[hcw];omega)).go ?_
 rintro _ _ ⟨rfl,rfl⟩
 rw[if_pos (Mk.wr_wr 1 1 _),hcw]
 simp -implicitDefEqProofs (disch:=first|omega|(simp only[LnZ];omega))[wrap64,F0,F1,F2,F3,hneg,F5]
 rw[IteW_neg (by omega)]
 simp -implicitDefEqProofs (disch:=first|omega|(simp only[LnZ];omega))[wrap64,F0,F1,F2,F3,hneg,F5]
 exact RetK.keep (hk _ _ ⟨H.base,rfl⟩)
end Go.Proofs.YtielhfonnleldaaGreat
