/-
  Texts of this proof, one behind the other.
-/
import Derived.Test.YtedbaenahnfhfaaGreatYF8
set_option linter.all false
set_option linter.unusedVariables false
set_option linter.unusedSimpArgs false
set_option linter.defProp false
set_option maxRecDepth 1000000
namespace Go.Proofs.YtedbaenahnfhfaaGreat
open Go
def H_impl_MonitorRun:Hint:=⟨[(0,false),(1,false),(2,true),(4,false),(5,false)],[]⟩
abbrev K8_1:C:=.seq (.pl <| .e 5 1 <|
 .m 5 4 <|
 .m 3 5 .done) (.ret)
abbrev K8_2:Pl:=.m 8 7 <|
 .x 9 (.extract 0 (.v 8)) <|
 .x 10 (.extract 1 (.v 8)) <|
 .m 4 9 <|
 .m 11 10 .done
abbrev K8_3:C:=.seq (.pl <| .e 5 7 <|
 .o (.pget (some 5) none 2 0 (some 3)) <|
 .m 6 1 <|
 .c 7 (.call fn_impl_monitorRun [.v 5,.v 6]) K8_2) K8_1
abbrev B_impl_MonitorRun:C:=.seq (.pl <| .e 5 0 <|
 .o (.pnew 2 (.v 0) []) <|
 .x 3 (.mv (.c (.slice none 0 0))) .done) K8_3
def R_impl_MonitorRun:FIR:=⟨B_impl_MonitorRun,5,[(3,none)]⟩
theorem IR_impl_MonitorRun:cfun Tryz.prog H_impl_MonitorRun Tryz.f8=some R_impl_MonitorRun:=by kernel_rfl
theorem EN_impl_MonitorRun:ENT Tryz.prog B_impl_MonitorRun [(3,none)] 2 5 fn_impl_MonitorRun:=fun hargs hw=>enter Tryz.func8 rfl IR_impl_MonitorRun hargs hw
def H_laws_FnMonitorRun:Hint:=⟨[(0,false),(2,false),(3,true),(4,false),(5,false),(6,false)],[[0,1]]⟩
abbrev K3_1:C:=.seq (.pl <| .e 6 6 <|
 .m 6 4 <|
 .x 7 (.lenV (.v 6)) <|
 .m 8 3 <|
 .x 9 (.lenV (.v 8)) <|
 .x 10 (.bin .add (.v 9) (.c (.int .i64 1))) <|
 .x 11 (.bin .eql (.v 7) (.v 10)) <|
 .m 1 11 .done) (.ret)
abbrev K3_2:C:=.pl <| .e 6 2 <|
 .m 6 5 <|
 .x 7 (.bin .add (.v 6) (.c (.int .i64 1))) <|
 .m 5 7 .done
abbrev K3_3:C:=.seq (.pl <| .e 6 0 <|
 .x 1 (.mv (.c (.bool false))) .done) (.ret)
abbrev K3_4:C:=.cond 6 (.v 39) K3_3 (.skip)
abbrev K3_5:Pl:=.st (.re 9 (.v 8) none none) <|
 .x 15 (.bin .neq (.v 9) (.v 14)) <|
 .m 16 15 <|
 .n 16 (.px (some 17) (.mv (.v 5))) <|
 .n 16 (.px (some 18) (.bin .gtr (.v 17) (.c (.int .i64 0)))) <|
 .n 16 (.px (some 19) (.mv (.v 18))) <|
 .y 19 (.px (some 20) (.mv (.v 4))) <|
 .y 19 (.px (some 21) (.mv (.v 5))) <|
 .y 19 (.px (some 22) (.bin .sub (.v 21) (.c (.int .i64 1)))) <|
 .y 19 (.px (some 23) (.ia 1 (.v 20) (.v 22))) <|
 .y 19 (.ld (some 24) (.v 23) none) <|
 .y 19 (.px (some 25) (.bin .neq (.v 24) (.c (.int .i64 0)))) <|
 .n 16 (.px (some 26) (.pick (.v 19) (.v 25) (.c (.bool false)))) <|
 .n 16 (.px (some 27) (.mv (.v 26))) <|
 .y 27 (.px (some 28) (.mv (.v 4))) <|
 .y 27 (.px (some 29) (.mv (.v 5))) <|
 .y 27 (.px (some 30) (.ia 1 (.v 28) (.v 29))) <|
 .y 27 (.ld (some 31) (.v 30) none) <|
 .y 27 (.px (some 32) (.mv (.v 4))) <|
 .y 27 (.px (some 33) (.mv (.v 5))) <|
 .y 27 (.px (some 34) (.bin .sub (.v 33) (.c (.int .i64 1)))) <|
 .y 27 (.px (some 35) (.ia 1 (.v 32) (.v 34))) <|
 .y 27 (.ld (some 36) (.v 35) none) <|
 .y 27 (.px (some 37) (.bin .neq (.v 31) (.v 36))) <|
 .n 16 (.px (some 38) (.pick (.v 27) (.v 37) (.c (.bool false)))) <|
 .x 39 (.pick (.v 16) (.c (.bool true)) (.v 38)) .done
abbrev K3_6:C:=.seq (.block 1 (.seq (.pl <| .e 6 34 <|
 .m 6 4 <|
 .m 7 5 <|
 .x 8 (.ia 1 (.v 6) (.v 7)) <|
 .l 9 8 <|
 .o (.pget (some 10) none 2 0 (some 3)) <|
 .m 11 3 <|
 .m 12 5 <|
 .x 13 (.sliceV 1 (.v 11) none (some (.v 12)) none) <|
 .c 14 (.call fn_impl_MonitorFormula [.v 10,.v 13]) K3_5) K3_4)) K3_2
abbrev K3_7:C:=.cond 6 (.v 9) (.skip) (.exit 0)
abbrev K3_8:C:=.seq (.seq (.pl <| .e 6 4 <|
 .m 6 5 <|
 .m 7 4 <|
 .x 8 (.lenV (.v 7)) <|
 .x 9 (.bin .lss (.v 6) (.v 8)) .done) K3_7) K3_6
abbrev K3_9:C:=.block 0 (.loop 6 [0,1] K3_8)
abbrev K3_10:C:=.seq (.seq (.pl <| .e 6 0 <|
 .x 5 (.mv (.c (.int .i64 0))) .done) K3_9) K3_1
abbrev K3_11:Pl:=.m 1 10 .done
abbrev K3_12:Pl:=.c 10 (.call fn_laws_wpInts [.v 6,.v 9]) K3_11
abbrev K3_13:C:=.seq (.pl <| .e 6 5 <|
 .m 6 4 <|
 .o (.pget (some 7) none 2 0 (some 3)) <|
 .m 8 3 <|
 .c 9 (.call fn_spec_MonitorRun [.v 7,.v 8]) K3_12) (.ret)
abbrev K3_14:C:=.cond 6 (.v 16) K3_13 (.skip)
abbrev K3_15:Pl:=.x 11 (.un .not (.v 10)) <|
 .m 12 11 <|
 .n 12 (.px (some 13) (.mv (.v 4))) <|
 .n 12 (.px (some 14) (.lenV (.v 13))) <|
 .n 12 (.px (some 15) (.bin .eql (.v 14) (.c (.int .i64 0)))) <|
 .x 16 (.pick (.v 12) (.c (.bool true)) (.v 15)) .done
abbrev K3_16:Pl:=.c 10 (.call fn_laws_wpInts [.v 6,.v 9]) K3_15
abbrev K3_17:C:=.seq (.seq (.pl <| .e 6 11 <|
 .m 6 4 <|
 .o (.pget (some 7) none 2 0 (some 3)) <|
 .m 8 3 <|
 .c 9 (.call fn_spec_MonitorRun [.v 7,.v 8]) K3_16) K3_14) K3_10
abbrev K3_18:Pl:=.m 4 8 .done
abbrev K3_19:C:=.seq (.pl <| .e 6 3 <|
 .o (.pget (some 6) none 2 0 (some 3)) <|
 .m 7 3 <|
 .c 8 (.call fn_impl_MonitorRun [.v 6,.v 7]) K3_18) K3_17
abbrev K3_20:Pl:=.m 8 7 <|
 .x 9 (.extract 0 (.v 8)) <|
 .x 10 (.extract 1 (.v 8)) <|
 .o (.pnew 2 (.c (.agg #[.int .i64 0,.int .i64 0,.slice none 0 0])) []) <|
 .o (.pset none 2 0 3 (.v 9)) <|
 .m 3 10 .done
abbrev K3_21:C:=.seq (.pl <| .e 6 5 <|
 .m 6 0 <|
 .c 7 (.call fn_spec_DrawMonitorRun [.v 6]) K3_20) K3_19
abbrev K3_22:C:=.seq (.pl <| .e 6 0 <|
 .x 1 (.mv (.c (.bool true))) .done) (.ret)
abbrev K3_23:C:=.cond 6 (.v 8) K3_22 (.skip)
abbrev K3_24:C:=.seq (.seq (.pl <| .e 6 3 <|
 .m 6 0 <|
 .x 7 (.lenV (.v 6)) <|
 .x 8 (.bin .gtr (.v 7) (.c (.int .i64 1048576))) .done) K3_23) K3_21
abbrev B_laws_FnMonitorRun:C:=.seq (.pl <| .e 6 0 <|
 .x 1 (.mv (.c (.bool false))) .done) K3_24
def R_laws_FnMonitorRun:FIR:=⟨B_laws_FnMonitorRun,6,[(1,none)]⟩
theorem IR_laws_FnMonitorRun:cfun Tryz.prog H_laws_FnMonitorRun Tryz.f3=some R_laws_FnMonitorRun:=by kernel_rfl
theorem EN_laws_FnMonitorRun:ENT Tryz.prog B_laws_FnMonitorRun [(1,none)] 1 6 fn_laws_FnMonitorRun:=fun hargs hw=>enter Tryz.func3 rfl IR_laws_FnMonitorRun hargs hw
def H_laws_wpInts:Hint:=⟨[(0,false),(1,false),(4,false),(5,false)],[[2]]⟩
abbrev K9_1:C:=.seq (.pl <| .e 4 0 <|
 .x 2 (.mv (.c (.bool true))) .done) (.ret)
abbrev K9_2:C:=.pl <| .e 4 2 <|
 .m 4 3 <|
 .x 5 (.bin .add (.v 4) (.c (.int .i64 1))) <|
 .m 3 5 .done
abbrev K9_3:C:=.seq (.pl <| .e 4 0 <|
 .x 2 (.mv (.c (.bool false))) .done) (.ret)
abbrev K9_4:C:=.cond 4 (.v 12) K9_3 (.skip)
abbrev K9_5:C:=.seq (.block 1 (.seq (.pl <| .e 4 9 <|
 .m 4 0 <|
 .m 5 3 <|
 .x 6 (.ia 1 (.v 4) (.v 5)) <|
 .l 7 6 <|
 .m 8 1 <|
 .m 9 3 <|
 .x 10 (.ia 1 (.v 8) (.v 9)) <|
 .l 11 10 <|
 .x 12 (.bin .neq (.v 7) (.v 11)) .done) K9_4)) K9_2
abbrev K9_6:C:=.cond 4 (.v 7) (.skip) (.exit 0)
abbrev K9_7:C:=.seq (.seq (.pl <| .e 4 4 <|
 .m 4 3 <|
 .m 5 0 <|
 .x 6 (.lenV (.v 5)) <|
 .x 7 (.bin .lss (.v 4) (.v 6)) .done) K9_6) K9_5
abbrev K9_8:C:=.block 0 (.loop 4 [2] K9_7)
abbrev K9_9:C:=.seq (.seq (.pl <| .e 4 0 <|
 .x 3 (.mv (.c (.int .i64 0))) .done) K9_8) K9_1
abbrev K9_10:C:=.seq (.pl <| .e 4 0 <|
 .x 2 (.mv (.c (.bool false))) .done) (.ret)
abbrev K9_11:C:=.cond 4 (.v 8) K9_10 (.skip)
abbrev K9_12:C:=.seq (.seq (.pl <| .e 4 5 <|
 .m 4 0 <|
 .x 5 (.lenV (.v 4)) <|
 .m 6 1 <|
 .x 7 (.lenV (.v 6)) <|
 .x 8 (.bin .neq (.v 5) (.v 7)) .done) K9_11) K9_9
abbrev B_laws_wpInts:C:=.seq (.pl <| .e 4 0 <|
 .x 2 (.mv (.c (.bool false))) .done) K9_12
def R_laws_wpInts:FIR:=⟨B_laws_wpInts,4,[(2,none)]⟩
theorem IR_laws_wpInts:cfun Tryz.prog H_laws_wpInts Tryz.f9=some R_laws_wpInts:=by kernel_rfl
theorem EN_laws_wpInts:ENT Tryz.prog B_laws_wpInts [(2,none)] 2 4 fn_laws_wpInts:=fun hargs hw=>enter Tryz.func9 rfl IR_laws_wpInts hargs hw
def H_spec_DrawMonitorRun:Hint:=⟨[(0,false),(2,true),(3,false),(4,true),(5,false)],[]⟩
abbrev K7_1:C:=.seq (.pl <| .e 5 2 <|
 .o (.pget (some 5) none 3 0 (some 3)) <|
 .m 6 4 <|
 .o (.pset none 1 0 3 (.v 5)) <|
 .m 2 6 .done) (.ret)
abbrev K7_2:C:=.pl <| .e 5 2 <|
 .m 5 4 <|
 .x 6 (.sliceV 1 (.v 5) none (some (.c (.int .i64 8))) none) <|
 .m 4 6 .done
abbrev K7_3:C:=.cond 5 (.v 7) K7_2 (.skip)
abbrev K7_4:C:=.seq (.seq (.pl <| .e 5 3 <|
 .m 5 4 <|
 .x 6 (.lenV (.v 5)) <|
 .x 7 (.bin .gtr (.v 6) (.c (.int .i64 8))) .done) K7_3) K7_1
abbrev K7_5:Pl:=.m 7 6 <|
 .x 8 (.extract 0 (.v 7)) <|
 .x 9 (.extract 1 (.v 7)) <|
 .o (.pnew 3 (.c (.agg #[.int .i64 0,.int .i64 0,.slice none 0 0])) []) <|
 .o (.pset none 3 0 3 (.v 8)) <|
 .m 4 9 .done
abbrev K7_6:C:=.seq (.pl <| .e 5 5 <|
 .m 5 0 <|
 .c 6 (.call fn_spec_DrawMonitorFormula [.v 5]) K7_5) K7_4
abbrev B_spec_DrawMonitorRun:C:=.seq (.pl <| .e 5 0 <|
 .o (.pnew 1 (.c (.agg #[.int .i64 0,.int .i64 0,.slice none 0 0])) []) <|
 .x 2 (.mv (.c (.slice none 0 0))) .done) K7_6
def R_spec_DrawMonitorRun:FIR:=⟨B_spec_DrawMonitorRun,5,[(1,some (some 3)),(2,none)]⟩
theorem IR_spec_DrawMonitorRun:cfun Tryz.prog H_spec_DrawMonitorRun Tryz.f7=some R_spec_DrawMonitorRun:=by kernel_rfl
theorem EN_spec_DrawMonitorRun:ENT Tryz.prog B_spec_DrawMonitorRun [(1,some (some 3)),(2,none)] 1 5 fn_spec_DrawMonitorRun:=fun hargs hw=>enter Tryz.func7 rfl IR_spec_DrawMonitorRun hargs hw
def H_spec_MonitorRun:Hint:=⟨[(0,false),(1,false),(2,true),(4,false),(5,false),(6,true),(7,true),(8,false),(9,false)],[[0,2,3]]⟩
abbrev K10_1:C:=.seq (.pl <| .e 9 1 <|
 .m 9 4 <|
 .m 3 9 .done) (.ret)
abbrev K10_2:C:=.pl <| .e 9 2 <|
 .m 9 8 <|
 .x 10 (.bin .add (.v 9) (.c (.int .i64 1))) <|
 .m 8 10 .done
abbrev K10_3:Pl:=.m 4 17 .done
abbrev K10_4:Pl:=.o (.psl 16 [.int .i64 0] [(0,1,.v 15)]) <|
 .c 17 (.app 8 1 [.int .i64 0] (.o (.v 9)) (.p 1 16)) K10_3
abbrev K10_5:C:=.seq (.block 1 (.pl <| .e 9 9 <|
 .m 9 4 <|
 .o (.pget (some 10) none 5 0 (some 3)) <|
 .o (.pget (some 11) none 6 0 (some 3)) <|
 .m 12 1 <|
 .m 13 8 <|
 .x 14 (.sliceV 1 (.v 12) none (some (.v 13)) none) <|
 .c 15 (.call fn_spec_l12Verdict [.v 10,.v 11,.v 14]) K10_4)) K10_2
abbrev K10_6:C:=.cond 9 (.v 15) (.skip) (.exit 0)
abbrev K10_7:C:=.seq (.seq (.pl <| .e 9 7 <|
 .m 9 8 <|
 .m 10 1 <|
 .x 11 (.lenV (.v 10)) <|
 .x 12 (.bin .leq (.v 9) (.v 11)) <|
 .m 13 12 <|
 .y 13 (.px (some 14) (.mv (.v 7))) <|
 .x 15 (.pick (.v 13) (.v 14) (.c (.bool false))) .done) K10_6) K10_5
abbrev K10_8:C:=.block 0 (.loop 9 [0,2,3] K10_7)
abbrev K10_9:C:=.seq (.seq (.pl <| .e 9 0 <|
 .x 8 (.mv (.c (.int .i64 0))) .done) K10_8) K10_1
abbrev K10_10:Pl:=.m 11 10 <|
 .x 12 (.extract 0 (.v 11)) <|
 .x 13 (.extract 1 (.v 11)) <|
 .x 14 (.extract 2 (.v 11)) <|
 .o (.pnew 5 (.c (.agg #[.slice none 0 0,.slice none 0 0,.slice none 0 0])) []) <|
 .o (.pnew 6 (.c (.agg #[.slice none 0 0,.slice none 0 0,.slice none 0 0])) []) <|
 .o (.pset none 5 0 3 (.v 12)) <|
 .o (.pset none 6 0 3 (.v 13)) <|
 .m 7 14 .done
abbrev K10_11:C:=.seq (.pl <| .e 9 6 <|
 .o (.pget (some 9) none 2 0 (some 3)) <|
 .c 10 (.call fn_spec_l12Both [.v 9]) K10_10) K10_9
abbrev K10_12:C:=.seq (.pl <| .e 9 1 <|
 .m 9 4 <|
 .m 3 9 .done) (.ret)
abbrev K10_13:C:=.cond 9 (.v 16) K10_12 (.skip)
abbrev K10_14:Pl:=.n 12 (.px (some 15) (.un .not (.v 14))) <|
 .x 16 (.pick (.v 12) (.c (.bool true)) (.v 15)) .done
abbrev K10_15:Pl:=.x 11 (.un .not (.v 10)) <|
 .m 12 11 <|
 .n 12 (.px (some 13) (.mv (.v 1))) <|
 .st (.act (some (.v 12,false)) (.ex (some 14) (.call fn_spec_l12Word [.v 13]))) K10_14
abbrev K10_16:C:=.seq (.seq (.pl <| .e 9 8 <|
 .o (.pget (some 9) none 2 0 (some 3)) <|
 .c 10 (.call fn_spec_FormulaValid [.v 9]) K10_15) K10_13) K10_11
abbrev K10_17:Pl:=.m 4 9 .done
abbrev K10_18:C:=.seq (.pl <| .e 9 1 <|
 .c 9 (.bls 1 0 [.int .i64 0] []) K10_17) K10_16
abbrev B_spec_MonitorRun:C:=.seq (.pl <| .e 9 0 <|
 .o (.pnew 2 (.v 0) []) <|
 .x 3 (.mv (.c (.slice none 0 0))) .done) K10_18
def R_spec_MonitorRun:FIR:=⟨B_spec_MonitorRun,9,[(3,none)]⟩
theorem IR_spec_MonitorRun:cfun Tryz.prog H_spec_MonitorRun Tryz.f10=some R_spec_MonitorRun:=by kernel_rfl
theorem EN_spec_MonitorRun:ENT Tryz.prog B_spec_MonitorRun [(3,none)] 2 9 fn_spec_MonitorRun:=fun hargs hw=>enter Tryz.func10 rfl IR_spec_MonitorRun hargs hw
namespace Fm
theorem bad_more {x:Exq}(h:trOk x) (ha:(trA x).Ok) {W V:List Int}(hW:∀y∈W++V,0≤y∧y≤7) (h1:(trA x).states W=[]):(trA x).states (W++V)=[]:=by
 rw[bad_iff h ha hW]
 intro w h2 h3
 refine (bad_iff h ha fun y hy=>hW y (List.mem_append_left _ hy)).1 h1 w h2 fun i hi=>?_
 have:=h3 i (by simp only[List.length_append];omega)
 rwa [List.getElem_append_left hi] at this
end Fm
namespace Fm
theorem vdt_keep {x y:Exq}(h:Dual x y) {W V:List Int}(hW:LtW (W++V)) (h0:vdt x y W≠0):vdt x y (W++V)=vdt x y W:=by
 have hW1:LtW W:=fun z hz=>hW z (List.mem_append_left _ hz)
 have h5:=vdt_rng (x:=x) (y:=y) (W:=W)
 rcases h5 with h5 | h5 | h5
 ·exact absurd h5 h0
 ·rw[h5,vdt_good h hW]
  exact bad_more h.ty h.ay hW ((vdt_good h hW1).1 h5)
 ·rw[h5,vdt_bad]
  exact bad_more h.tx h.ax hW (vdt_bad.1 h5)
end Fm
theorem c_MonitorRun {h:Heap}{v w:Value}{x:Exq}{W:List Int}(R:Rep h v x) (RW:Rep h w W):CallE Tryz.prog fn_impl_MonitorRun [v,w] h (fun u h'=>HS h [ow u (Fm.monL x W)] h'):=by
 have FX:=R.aExq
 refine CallE.gen fun k hk=>EN_impl_MonitorRun rfl ?_
 simp -implicitDefEqProofs (disch:=first|omega|(simp only[LnZ];omega))[wrap64,FX]
 refine (c_monitorRun R RW).go ?_
 rintro _ h1 ⟨l,rfl,H⟩
 simp -implicitDefEqProofs (disch:=omega)[wrap64]
 exact RetK.keep (hk _ _ H)
theorem c_spec_MonitorRun {h:Heap}{v w:Value}{x:Exq}{W:List Int}(R:Rep h v x) (RW:Rep h w W):CallE Tryz.prog fn_spec_MonitorRun [v,w] h (fun u h'=>HS h [ow u (Fm.monL x W)] h'):=by
 have FX:=R.aExq
 refine CallE.gen fun k hk=>EN_spec_MonitorRun rfl ?_
 unfold Fm.monL at hk
 have RW0:=RW
 simp -implicitDefEqProofs (disch:=first|omega|(simp only[LnZ];omega))[wrap64,FX]
 refine HS.init.bls0 Int fun o h0 H=>?_
 have R:=R.on H
 have RW:=RW.on H
 have lz:=H.base
 simp -implicitDefEqProofs (disch:=first|omega|(simp only[LnZ];omega))[wrap64,FX]
 refine (c_spec_FormulaValid R).go ?_
 rintro _ h1 ⟨rfl,rfl⟩
 by_cases q1:Fm.Ok x
 case neg=>
  have hm:=Fm.mvd_3 (x:=x) (W:=W) fun hh=>q1 hh.1
  rw[if_neg (by omega)] at hk
  simp -implicitDefEqProofs (disch:=first|omega|(simp only[LnZ];omega))[wrap64,q1]
  exact RetK.keep (hk _ _ H)
 simp -implicitDefEqProofs (disch:=first|omega|(simp only[LnZ];omega))[wrap64,q1]
 refine (c_l12Word RW).go ?_
 rintro _ h1 ⟨rfl,rfl⟩
 by_cases q2:Wok W
 case neg=>
  have hm:=Fm.mvd_3 (x:=x) (W:=W) fun hh=>q2 hh.2
  rw[if_neg (by omega)] at hk
  simp -implicitDefEqProofs (disch:=first|omega|(simp only[LnZ];omega))[wrap64,q2]
  exact RetK.keep (hk _ _ H)
 simp -implicitDefEqProofs (disch:=first|omega|(simp only[LnZ];omega))[wrap64,q2,FX]
 refine (c_l12Both R q1).go ?_
 rintro _ h2 ⟨wa,wb,rfl,G⟩
 have FA:=G.rep.aAut
 have FB:=G.sw1.rep.aAut
 have H:HS h [ow wa (Fm.trR x),ow wb (Fm.trR (Fm.ngt x)),ow o ([]:List Int)] h2:=G.app H
 have hwl:W.length≤200:=q2.1
 by_cases q3:Fm.trOk x∧Fm.trOk (Fm.ngt x)
 case neg=>
  have hm:=Fm.mvd_4 ⟨q1,q2⟩ q3
  rw[if_neg (by omega)] at hk
  simp -implicitDefEqProofs (disch:=first|omega|(simp only[LnZ];omega))[wrap64,q3,FA,FB,setC]
  refine wp_count 0 (fun i e h'=>e=[none,some w,none,none,some o,some wa,some wb,some (.bool false),some (.int .i64 0)]∧h'=h2) ⟨by simp,rfl⟩ ?_
  rintro J i _ _ hJ hi ⟨rfl,rfl⟩
  simp -implicitDefEqProofs (disch:=first|omega|(simp only[LnZ];omega))[wrap64,(RW.on G).len]
  exact RetK.keep (hk _ _ H.sw2.only)
 have hm:=Fm.mvd_0 ⟨q1,q2⟩ q3
 have ha:=Fm.trA_ok q3.1
 have hb:=Fm.trA_ok q3.2
 rw[if_pos hm] at hk
 rw[Fm.trR,if_pos q3.1,Fm.trR,if_pos q3.2] at H
 have hRl:=Fm.runs_len (x:=x) (W:=W)
 have RW:=RW.on G
 have H:HS h ([ow o ([]:List Int)]++[ow wa (Fm.trA x),ow wb (Fm.trA (Fm.ngt x))]) h2:=H.sw2
 simp -implicitDefEqProofs (disch:=first|omega|(simp only[LnZ];omega))[wrap64,q3.1,q3.2,FA,FB,setC]
 refine wp_count (W.length+1) (fun i e h'=>∃o,e=[none,some w,none,none,some o,some wa,some wb,some (.bool true),some (.int .i64 i)]∧HS h [ow o ((Fm.runs x W).take i),ow wa (Fm.trA x),ow wb (Fm.trA (Fm.ngt x))] h') ⟨o,by simp,H⟩ ?_
 clear H
 rintro J i _ h3 hJ hi ⟨o,rfl,H⟩
 have RW:=RW0.on H
 by_cases hiW:i≤W.length
 ·have hix:i<W.length+1:=by omega
  obtain⟨t,ht,Rt⟩:=RW.cut (n:=i) (esz:=1) (k:=.i64) (by omega)
  have hra:=Fm.runs_at (x:=x) (W:=W) (i:=i) (by omega)
  have hrt:(Fm.runs x W).take (i+1)=(Fm.runs x W).take i++[Fm.vdt x (Fm.ngt x) (W.take i)]:=by
   rw[List.take_add_one,List.getElem?_eq_getElem (by omega),hra];rfl
  have htl:((Fm.runs x W).take i).length≤201:=by simp;omega
  have hvr:=Fm.vdt_rng (x:=x) (y:=Fm.ngt x) (W:=W.take i)
  simp -implicitDefEqProofs (disch:=first|omega|(simp only[LnZ];omega))[wrap64,RW.len,hiW,ht,FA,FB]
  refine (c_l12Verdict H.sw1.rep H.sw2.rep Rt ha hb).go ?_
  rintro _ h4 ⟨l4,rfl⟩
  have H:=H.le l4
  simp -implicitDefEqProofs (disch:=first|omega|(simp only[LnZ];omega))[wrap64,setC]
  refine HS.app1 (bytes:=8) H (Fm.vdt x (Fm.ngt x) (W.take i)) rfl rfl rfl ⟨by omega,by omega⟩ rfl rfl (by omega) (by omega) fun o' h5 H=>?_
  simp -implicitDefEqProofs (disch:=omega)[wrap64]
  exact hJ _ _ hix ⟨o',by simp,by rw[hrt];exact H⟩
 ·rw[List.take_of_length_le (by omega)] at H
  simp -implicitDefEqProofs (disch:=first|omega|(simp only[LnZ];omega))[wrap64,RW.len,hiW]
  exact RetK.keep (hk _ _ H.only)
theorem c_DrawMonitorRun {h:Heap}{v:Value}{l:List (BitVec 8)}(R:Rep h v l):CallE Tryz.prog fn_spec_DrawMonitorRun [v] h (fun u h'=>∃(u1 u2:Value) (x:Exq) (W:List Int),u=.tuple #[u1,u2]∧h.le h'∧Rep h' u1 x∧Rep h' u2 W∧W.length≤8):=by
 refine CallE.gen fun k hk=>EN_spec_DrawMonitorRun rfl ?_
 simp -implicitDefEqProofs (disch:=omega)[wrap64]
 refine (c_DrawMonitorFormula R).go ?_
 rintro _ h1 ⟨u1,u2,x,W,rfl,l1,Rx,RW,hW⟩
 have FX:=Rx.aExq
 by_cases q:(8:Int)<W.length
 ·obtain⟨t,ht,Rt⟩:=RW.cut (n:=8) (esz:=1) (k:=.i64) (by omega)
  have ht:sliceVV 1 u2 none (some (some (.int .i64 8))) none=some t:=ht
  simp -implicitDefEqProofs (disch:=first|omega|(simp only[LnZ];omega))[wrap64,FX,RW.len,q,ht,setC]
  exact RetK.keep (hk _ _ ⟨u1,t,x,W.take 8,rfl,l1,Rx,Rt,by simp;omega⟩)
 ·simp -implicitDefEqProofs (disch:=first|omega|(simp only[LnZ];omega))[wrap64,FX,RW.len,q,setC]
  exact RetK.keep (hk _ _ ⟨u1,u2,x,W,rfl,l1,Rx,RW,by omega⟩)
namespace Fm
end Fm
theorem c_wpInts {h:Heap}{v w:Value}{a b:List Int}(Ra:Rep h v a) (Rb:Rep h w b):CallE Tryz.prog fn_laws_wpInts [v,w] h (fun u h'=>h'=h∧u=.bool (decide (a=b))):=by
 have hL:=Ra.lt
 refine CallE.gen fun k hk=>EN_laws_wpInts rfl ?_
 by_cases hl:(a.length:Int)=b.length
 case neg=>
  simp -implicitDefEqProofs (disch:=first|omega|(simp only[LnZ];omega))[wrap64,Ra.len,Rb.len,hl]
  exact RetK.keep (hk _ _ ⟨rfl,by congr 1;rw[eq_comm,decide_eq_false_iff_not];intro e;subst e;exact hl rfl⟩)
 simp -implicitDefEqProofs (disch:=first|omega|(simp only[LnZ];omega))[wrap64,Ra.len,Rb.len,hl]
 refine wp_count a.length (fun i e h'=>e=[some v,some w,none,some (.int .i64 i)]∧h'=h∧a.take i=b.take i) ⟨by simp,rfl,rfl⟩ ?_
 rintro J i _ h hJ hi ⟨rfl,rfl,hq⟩
 simp -implicitDefEqProofs (disch:=first|omega|(simp only[LnZ];omega))[wrap64,Ra.len]
 refine IteW.mk (fun hlt=>?_) (fun hge=>?_)
 ·have hlx:i<a.length:=by omega
  have hly:i<b.length:=by omega
  by_cases he:a[i]=b[i]
  ·simp -implicitDefEqProofs (disch:=first|omega|(simp only[LnZ];omega))[wrap64,Ra.I,Rb.I,he]
   exact hJ _ _ hlx ⟨rfl,rfl,take_step hq hlx hly he⟩
  ·simp -implicitDefEqProofs (disch:=first|omega|(simp only[LnZ];omega))[wrap64,Ra.I,Rb.I,he]
   exact RetK.keep (hk _ _ ⟨rfl,by congr 1;rw[eq_comm,decide_eq_false_iff_not];intro e;subst e;exact he rfl⟩)
 ·simp -implicitDefEqProofs (disch:=omega)[wrap64]
  rw[List.take_of_length_le (by omega),List.take_of_length_le (by omega)] at hq
  exact RetK.keep (hk _ _ ⟨rfl,by simp[hq]⟩)
theorem Fm.mvd_take {x:Exq}{W:List Int}(h:Fm.mvd x W=0) (n:Nat):Fm.mvd x (W.take n)=0:=by
 obtain⟨⟨h1,h2⟩,h3⟩:=Fm.mvd_ok h
 refine Fm.mvd_0 ⟨h1,?_,fun y hy=>h2.2 y (List.mem_of_mem_take hy)⟩ h3
 have:=h2.1
 rw[List.length_take];omega
theorem Fm.runs_keep {x:Exq}{W:List Int}(h:Fm.mvd x W=0) {n:Nat}(hn:n<W.length) (h0:Fm.vdt x (Fm.ngt x) (W.take n)≠0):Fm.vdt x (Fm.ngt x) (W.take (n+1))=Fm.vdt x (Fm.ngt x) (W.take n):=by
 obtain⟨⟨_,hw⟩,t1,t2⟩:=Fm.mvd_ok h
 have e:W.take (n+1)=W.take n++[W[n]]:=by rw[List.take_add_one,List.getElem?_eq_getElem hn];rfl
 rw[e]
 refine Fm.vdt_keep (Fm.dual_of t1 t2) (fun y hy=>?_) h0
 rw[← e] at hy
 exact hw.2 y (List.mem_of_mem_take hy)
theorem c_FnMonitorRun {h:Heap}{v:Value}{l:List (BitVec 8)}(R:Rep h v l):CallE Tryz.prog fn_laws_FnMonitorRun [v] h (fun u h'=>h.le h'∧u=.bool true):=by
 refine CallE.gen fun k hk=>EN_laws_FnMonitorRun rfl ?_
 by_cases a1:(1048576:Int)<l.length
 ·simp -implicitDefEqProofs (disch:=first|omega|(simp only[LnZ];omega))[wrap64,R.len,a1]
  exact RetK.keep (hk _ _ ⟨Heap.le.refl _,rfl⟩)
 simp -implicitDefEqProofs (disch:=first|omega|(simp only[LnZ];omega))[wrap64,R.len,a1]
 refine (c_DrawMonitorRun R).go ?_
 rintro _ h1 ⟨u1,u2,x,W,rfl,l1,Rx,RW,hWl⟩
 have FX:=Rx.aExq
 simp -implicitDefEqProofs (disch:=first|omega|(simp only[LnZ];omega))[wrap64,FX,setC]
 refine (c_MonitorRun Rx RW).go ?_
 intro r1 h3 H
 have Rx:=Rx.on H
 have RW:=RW.on H
 simp -implicitDefEqProofs (disch:=first|omega|(simp only[LnZ];omega))[wrap64,FX,setC]
 refine (c_spec_MonitorRun Rx RW).go ?_
 intro r2 h4 H2
 have H:=H2.app H
 have Rx4:=Rx.on H2
 have RW4:=RW.on H2
 have lb:h.le h4:=l1.trans H.base
 simp -implicitDefEqProofs (disch:=omega)[wrap64]
 refine (c_wpInts H.sw1.rep H.rep).go ?_
 rintro _ h4 ⟨rfl,rfl⟩
 by_cases hm:Fm.mvd x W=0
 case neg=>
  have hL:Fm.monL x W=[]:=by rw[Fm.monL,if_neg hm]
  simp -implicitDefEqProofs (disch:=first|omega|(simp only[LnZ];omega))[wrap64,H.sw1.rep.len,hL,FX,setC]
  refine (c_spec_MonitorRun Rx4 RW4).go ?_
  intro r3 h5 H3
  have H:=H3.app H
  simp -implicitDefEqProofs (disch:=omega)[wrap64]
  refine (c_wpInts H.sw2.rep H.rep).go ?_
  rintro _ _ ⟨rfl,rfl⟩
  simp -implicitDefEqProofs (disch:=omega)[wrap64]
  exact RetK.keep (hk _ _ ⟨lb.trans H3.base,rfl⟩)
 have hL:Fm.monL x W=Fm.runs x W:=by rw[Fm.monL,if_pos hm]
 have hRl:=Fm.runs_len (x:=x) (W:=W)
 rw[hL] at H
 have RR:=H.sw1.rep
 have hl0:¬((Fm.runs x W).length:Int)=0:=by omega
 have hl0':¬Fm.runs x W=[]:=fun e=>by rw[e] at hRl;simp at hRl
 simp -implicitDefEqProofs (disch:=first|omega|(simp only[LnZ];omega))[wrap64,RR.len,hl0,hl0',hL]
 have hwl:=(Fm.mvd_ok hm).1.2.1
 have hRI:=RR.I
 refine wp_count (W.length+1) (fun i e h'=>e=[none,none,some u1,some u2,some r1,some (.int .i64 i)]∧h4.le h') ⟨by simp,Heap.le.refl _⟩ ?_
 rintro J i _ h5 hJ hi ⟨rfl,l5⟩
 have RR5:=RR.le l5
 have RI5:=RR5.I
 simp -implicitDefEqProofs (disch:=first|omega|(simp only[LnZ];omega))[wrap64,RR5.len]
 refine IteW.mk (fun hlt=>?_) (fun hge=>?_)
 ·have hix:i<W.length+1:=by omega
  obtain⟨t,ht,Rt⟩:=(RW4.le l5).cut (n:=i) (esz:=1) (k:=.i64) (by omega)
  have ht:sliceVV 1 u2 none (some (some (.int .i64 i))) none=some t:=ht
  have hme:Fm.monF x (W.take i)=(Fm.runs x W)[i]:=by rw[Fm.monF,if_pos (Fm.mvd_take hm i),Fm.runs_at]
  simp -implicitDefEqProofs (disch:=first|omega|(simp only[LnZ];omega))[wrap64,RI5,ht,FX]
  refine (c_MonitorFormula (Rx4.le l5) Rt).go ?_
  rintro _ h6 ⟨l6,rfl⟩
  rw[hme]
  have RI6:=(RR5.le l6).I
  match i,hix,hlt,hme with
  | 0,_,_,_=>
   simp -implicitDefEqProofs (disch:=first|omega|(simp only[LnZ];omega))[wrap64,RI6]
   exact hJ _ _ (by omega) ⟨by simp,l5.trans l6⟩
  | j+1,hix,hlt,hme=>
   have ej:((j+1:Nat):Int)-1=(j:Nat):=by omega
   have hjp:(0:Int)<((j+1:Nat):Int):=by omega
   have hkp:=Fm.runs_keep hm (n:=j) (by omega)
   rw[← Fm.runs_at (W:=W) (i:=j+1) (by omega),← Fm.runs_at (W:=W) (i:=j) (by omega)] at hkp
   by_cases q0:(Fm.runs x W)[j]=0
   ·simp -implicitDefEqProofs (disch:=first|omega|(simp only[LnZ];omega))[wrap64,RI6,hjp,ej,q0]
    exact hJ _ _ (by omega) ⟨by simp,l5.trans l6⟩
   ·have hkp:=hkp q0
    simp -implicitDefEqProofs (disch:=first|omega|(simp only[LnZ];omega))[wrap64,RI6,hjp,ej,q0,hkp]
    exact hJ _ _ (by omega) ⟨by simp,l5.trans l6⟩
 ·have hi1:(i:Int)=W.length+1:=by omega
  simp -implicitDefEqProofs (disch:=first|omega|(simp only[LnZ];omega))[wrap64,RR5.len,(RW4.le l5).len]
  exact RetK.keep (hk _ _ ⟨lb.trans l5,by simp[hRl]⟩)
end Go.Proofs.YtedbaenahnfhfaaGreat
