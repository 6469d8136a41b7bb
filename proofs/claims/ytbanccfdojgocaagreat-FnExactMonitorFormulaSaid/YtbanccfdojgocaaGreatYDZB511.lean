/-
  Texts of this proof, one behind the other.
-/
import Derived.Test.YtbanccfdojgocaaGreatYF7
set_option linter.all false
set_option linter.unusedVariables false
set_option linter.unusedSimpArgs false
set_option linter.defProp false
set_option maxRecDepth 1000000
namespace Go.Proofs.YtbanccfdojgocaaGreat
open Go
def H_laws_FnExactMonitorFormula:Hint:=⟨[(0,false),(1,false),(2,true),(4,false),(5,false),(6,false),(7,true),(8,false),(9,false)],[]⟩
def K10_1:C:=.seq (.pl <| .e 9 0 <|
 .x 3 (.mv (.c (.bool true))) .done) (.ret)
@[simp] def W10_1 := C.w K10_1.eq_1
def K10_2:C:=.seq (.pl <| .e 9 0 <|
 .x 3 (.mv (.c (.bool false))) .done) (.ret)
@[simp] def W10_2 := C.w K10_2.eq_1
def K10_3:C:=.cond 9 (.v 13) K10_2 (.skip)
@[simp] def W10_3 := C.w K10_3.eq_1
def K10_4:Pl:=.x 13 (.un .not (.v 12)) .done
@[simp] def W10_4 := Pl.w K10_4.eq_1
def K10_5:Pl:=.c 12 (.call fn_laws_eqIntS [.v 9,.v 11]) K10_4
@[simp] def W10_5 := Pl.w K10_5.eq_1
def K10_6:C:=.seq (.seq (.pl <| .e 9 5 <|
 .m 9 7 <|
 .m 10 1 <|
 .c 11 (.call fn_laws_toIntS [.v 10]) K10_5) K10_3) K10_1
@[simp] def W10_6 := C.w K10_6.eq_1
def K10_7:C:=.seq (.pl <| .e 9 0 <|
 .x 3 (.mv (.c (.bool false))) .done) (.ret)
@[simp] def W10_7 := C.w K10_7.eq_1
def K10_8:C:=.cond 9 (.v 13) K10_7 (.skip)
@[simp] def W10_8 := C.w K10_8.eq_1
def K10_9:Pl:=.x 13 (.un .not (.v 12)) .done
@[simp] def W10_9 := Pl.w K10_9.eq_1
def K10_10:Pl:=.c 12 (.call fn_laws_eqFormula [.v 9,.v 11]) K10_9
@[simp] def W10_10 := Pl.w K10_10.eq_1
def K10_11:C:=.seq (.seq (.pl <| .e 9 5 <|
 .o (.pget (some 9) none 6 0 (some 3)) <|
 .o (.pget (some 10) none 2 0 (some 3)) <|
 .c 11 (.call fn_laws_toFormula [.v 10]) K10_10) K10_8) K10_6
@[simp] def W10_11 := C.w K10_11.eq_1
def K10_12:C:=.seq (.pl <| .e 9 0 <|
 .x 3 (.mv (.c (.bool false))) .done) (.ret)
@[simp] def W10_12 := C.w K10_12.eq_1
def K10_13:C:=.cond 9 (.v 11) K10_12 (.skip)
@[simp] def W10_13 := C.w K10_13.eq_1
def K10_14:C:=.seq (.seq (.pl <| .e 9 3 <|
 .m 9 8 <|
 .m 10 5 <|
 .x 11 (.bin .neq (.v 9) (.v 10)) .done) K10_13) K10_11
@[simp] def W10_14 := C.w K10_14.eq_1
def K10_15:Pl:=.m 8 11 .done
@[simp] def W10_15 := Pl.w K10_15.eq_1
def K10_16:C:=.seq (.pl <| .e 9 3 <|
 .o (.pget (some 9) none 6 0 (some 3)) <|
 .m 10 7 <|
 .c 11 (.call fn_impl_MonitorFormula [.v 9,.v 10]) K10_15) K10_14
@[simp] def W10_16 := C.w K10_16.eq_1
def K10_17:Pl:=.m 7 10 .done
@[simp] def W10_17 := Pl.w K10_17.eq_1
def K10_18:C:=.seq (.pl <| .e 9 2 <|
 .m 9 1 <|
 .c 10 (.call fn_laws_toIntS [.v 9]) K10_17) K10_16
@[simp] def W10_18 := C.w K10_18.eq_1
def K10_19:Pl:=.o (.pnew 6 (.c (.agg #[.int .i64 0,.int .i64 0,.slice none 0 0])) []) <|
 .o (.pset none 6 0 3 (.v 10)) .done
@[simp] def W10_19 := Pl.w K10_19.eq_1
def K10_20:C:=.seq (.pl <| .e 9 2 <|
 .o (.pget (some 9) none 2 0 (some 3)) <|
 .c 10 (.call fn_laws_toFormula [.v 9]) K10_19) K10_18
@[simp] def W10_20 := C.w K10_20.eq_1
def K10_21:Pl:=.m 5 13 .done
@[simp] def W10_21 := Pl.w K10_21.eq_1
def K10_22:Pl:=.c 13 (.call fn_spec_MonitorFormula [.v 10,.v 12]) K10_21
@[simp] def W10_22 := Pl.w K10_22.eq_1
def K10_23:Pl:=.m 11 1 <|
 .c 12 (.call fn_laws_toIntS [.v 11]) K10_22
@[simp] def W10_23 := Pl.w K10_23.eq_1
def K10_24:C:=.seq (.pl <| .e 9 5 <|
 .o (.pget (some 9) none 2 0 (some 3)) <|
 .c 10 (.call fn_laws_toFormula [.v 9]) K10_23) K10_20
@[simp] def W10_24 := C.w K10_24.eq_1
def K10_25:C:=.seq (.pl <| .e 9 0 <|
 .x 3 (.mv (.c (.bool true))) .done) (.ret)
@[simp] def W10_25 := C.w K10_25.eq_1
def K10_26:C:=.cond 9 (.v 10) K10_25 (.skip)
@[simp] def W10_26 := C.w K10_26.eq_1
def K10_27:C:=.seq (.seq (.pl <| .e 9 2 <|
 .m 9 4 <|
 .x 10 (.bin .lss (.v 9) (.c (.int .i64 0))) .done) K10_26) K10_24
@[simp] def W10_27 := C.w K10_27.eq_1
def K10_28:Pl:=.m 4 11 .done
@[simp] def W10_28 := Pl.w K10_28.eq_1
def K10_29:C:=.seq (.pl <| .e 9 3 <|
 .o (.pget (some 9) none 2 0 (some 3)) <|
 .m 10 4 <|
 .c 11 (.call fn_laws_szFormula [.v 9,.v 10]) K10_28) K10_27
@[simp] def W10_29 := C.w K10_29.eq_1
def K10_30:C:=.seq (.pl <| .e 9 0 <|
 .x 4 (.mv (.c (.int .i64 1048576))) .done) K10_29
@[simp] def W10_30 := C.w K10_30.eq_1
def K10_31:C:=.seq (.pl <| .e 9 0 <|
 .x 3 (.mv (.c (.bool true))) .done) (.ret)
@[simp] def W10_31 := C.w K10_31.eq_1
def K10_32:C:=.cond 9 (.v 11) K10_31 (.skip)
@[simp] def W10_32 := C.w K10_32.eq_1
def K10_33:C:=.seq (.seq (.pl <| .e 9 3 <|
 .m 9 1 <|
 .x 10 (.lenV (.v 9)) <|
 .x 11 (.bin .gtr (.v 10) (.c (.int .i64 1048576))) .done) K10_32) K10_30
@[simp] def W10_33 := C.w K10_33.eq_1
def B_laws_FnExactMonitorFormula:C:=.seq (.pl <| .e 9 0 <|
 .o (.pnew 2 (.v 0) []) <|
 .x 3 (.mv (.c (.bool false))) .done) K10_33
@[simp] def WB_laws_FnExactMonitorFormula := C.w B_laws_FnExactMonitorFormula.eq_1
def R_laws_FnExactMonitorFormula:FIR:=⟨B_laws_FnExactMonitorFormula,9,[(3,none)]⟩
theorem IR_laws_FnExactMonitorFormula:cfun Tryz.prog H_laws_FnExactMonitorFormula Tryz.f10=some R_laws_FnExactMonitorFormula:=by kernel_rfl
theorem EN_laws_FnExactMonitorFormula:ENT Tryz.prog B_laws_FnExactMonitorFormula [(3,none)] 2 9 fn_laws_FnExactMonitorFormula:=fun hargs hw=>enter Tryz.func10 rfl IR_laws_FnExactMonitorFormula hargs hw
end Go.Proofs.YtbanccfdojgocaaGreat

namespace Go.Proofs.YtbanccfdojgocaaGreat
open Go
def H_impl_MonitorFormula:Hint:=⟨[(0,false),(1,false),(2,true),(4,false),(5,false),(6,false)],[]⟩
def K39_1:C:=.seq (.pl <| .e 6 6 <|
 .m 6 4 <|
 .m 7 4 <|
 .x 8 (.lenV (.v 7)) <|
 .x 9 (.bin .sub (.v 8) (.c (.int .i64 1))) <|
 .x 10 (.ia 1 (.v 6) (.v 9)) <|
 .l 11 10 <|
 .m 3 11 .done) (.ret)
@[simp] def W39_1 := C.w K39_1.eq_1
def K39_2:C:=.seq (.pl <| .e 6 1 <|
 .m 6 5 <|
 .m 3 6 .done) (.ret)
@[simp] def W39_2 := C.w K39_2.eq_1
def K39_3:C:=.cond 6 (.v 7) K39_2 (.skip)
@[simp] def W39_3 := C.w K39_3.eq_1
def K39_4:C:=.seq (.seq (.pl <| .e 6 2 <|
 .m 6 5 <|
 .x 7 (.bin .neq (.v 6) (.c (.int .i64 0))) .done) K39_3) K39_1
@[simp] def W39_4 := C.w K39_4.eq_1
def K39_5:Pl:=.m 9 8 <|
 .x 10 (.extract 0 (.v 9)) <|
 .x 11 (.extract 1 (.v 9)) <|
 .m 4 10 <|
 .m 5 11 .done
@[simp] def W39_5 := Pl.w K39_5.eq_1
def K39_6:C:=.seq (.pl <| .e 6 6 <|
 .o (.pget (some 6) none 2 0 (some 3)) <|
 .m 7 1 <|
 .c 8 (.call fn_impl_monitorRun [.v 6,.v 7]) K39_5) K39_4
@[simp] def W39_6 := C.w K39_6.eq_1
def B_impl_MonitorFormula:C:=.seq (.pl <| .e 6 0 <|
 .o (.pnew 2 (.v 0) []) <|
 .x 3 (.mv (.c (.int .i64 0))) .done) K39_6
@[simp] def WB_impl_MonitorFormula := C.w B_impl_MonitorFormula.eq_1
def R_impl_MonitorFormula:FIR:=⟨B_impl_MonitorFormula,6,[(3,none)]⟩
theorem IR_impl_MonitorFormula:cfun Tryz.prog H_impl_MonitorFormula Tryz.f39=some R_impl_MonitorFormula:=by kernel_rfl
theorem EN_impl_MonitorFormula:ENT Tryz.prog B_impl_MonitorFormula [(3,none)] 2 6 fn_impl_MonitorFormula:=fun hargs hw=>enter Tryz.func39 rfl IR_impl_MonitorFormula hargs hw
def H_spec_MonitorFormula:Hint:=⟨[(0,false),(1,false),(2,true),(4,false),(5,true),(6,true),(7,false)],[]⟩
def K37_1:Pl:=.m 3 10 .done
@[simp] def W37_1 := Pl.w K37_1.eq_1
def K37_2:C:=.seq (.pl <| .e 7 4 <|
 .o (.pget (some 7) none 4 0 (some 3)) <|
 .o (.pget (some 8) none 5 0 (some 3)) <|
 .m 9 1 <|
 .c 10 (.call fn_spec_l12Verdict [.v 7,.v 8,.v 9]) K37_1) (.ret)
@[simp] def W37_2 := C.w K37_2.eq_1
def K37_3:C:=.seq (.pl <| .e 7 0 <|
 .x 3 (.mv (.c (.int .i64 4))) .done) (.ret)
@[simp] def W37_3 := C.w K37_3.eq_1
def K37_4:C:=.cond 7 (.v 8) K37_3 (.skip)
@[simp] def W37_4 := C.w K37_4.eq_1
def K37_5:C:=.seq (.seq (.pl <| .e 7 2 <|
 .m 7 6 <|
 .x 8 (.un .not (.v 7)) .done) K37_4) K37_2
@[simp] def W37_5 := C.w K37_5.eq_1
def K37_6:Pl:=.m 9 8 <|
 .x 10 (.extract 0 (.v 9)) <|
 .x 11 (.extract 1 (.v 9)) <|
 .x 12 (.extract 2 (.v 9)) <|
 .o (.pnew 4 (.c (.agg #[.slice none 0 0,.slice none 0 0,.slice none 0 0])) []) <|
 .o (.pnew 5 (.c (.agg #[.slice none 0 0,.slice none 0 0,.slice none 0 0])) []) <|
 .o (.pset none 4 0 3 (.v 10)) <|
 .o (.pset none 5 0 3 (.v 11)) <|
 .m 6 12 .done
@[simp] def W37_6 := Pl.w K37_6.eq_1
def K37_7:C:=.seq (.pl <| .e 7 6 <|
 .o (.pget (some 7) none 2 0 (some 3)) <|
 .c 8 (.call fn_spec_l12Both [.v 7]) K37_6) K37_5
@[simp] def W37_7 := C.w K37_7.eq_1
def K37_8:C:=.seq (.pl <| .e 7 0 <|
 .x 3 (.mv (.c (.int .i64 3))) .done) (.ret)
@[simp] def W37_8 := C.w K37_8.eq_1
def K37_9:C:=.cond 7 (.v 14) K37_8 (.skip)
@[simp] def W37_9 := C.w K37_9.eq_1
def K37_10:Pl:=.n 10 (.px (some 13) (.un .not (.v 12))) <|
 .x 14 (.pick (.v 10) (.c (.bool true)) (.v 13)) .done
@[simp] def W37_10 := Pl.w K37_10.eq_1
def K37_11:Pl:=.x 9 (.un .not (.v 8)) <|
 .m 10 9 <|
 .n 10 (.px (some 11) (.mv (.v 1))) <|
 .st (.act (some (.v 10,false)) (.ex (some 12) (.call fn_spec_l12Word [.v 11]))) K37_10
@[simp] def W37_11 := Pl.w K37_11.eq_1
def K37_12:C:=.seq (.seq (.pl <| .e 7 8 <|
 .o (.pget (some 7) none 2 0 (some 3)) <|
 .c 8 (.call fn_spec_FormulaValid [.v 7]) K37_11) K37_9) K37_7
@[simp] def W37_12 := C.w K37_12.eq_1
def B_spec_MonitorFormula:C:=.seq (.pl <| .e 7 0 <|
 .o (.pnew 2 (.v 0) []) <|
 .x 3 (.mv (.c (.int .i64 0))) .done) K37_12
@[simp] def WB_spec_MonitorFormula := C.w B_spec_MonitorFormula.eq_1
def R_spec_MonitorFormula:FIR:=⟨B_spec_MonitorFormula,7,[(3,none)]⟩
theorem IR_spec_MonitorFormula:cfun Tryz.prog H_spec_MonitorFormula Tryz.f37=some R_spec_MonitorFormula:=by kernel_rfl
theorem EN_spec_MonitorFormula:ENT Tryz.prog B_spec_MonitorFormula [(3,none)] 2 7 fn_spec_MonitorFormula:=fun hargs hw=>enter Tryz.func37 rfl IR_spec_MonitorFormula hargs hw
end Go.Proofs.YtbanccfdojgocaaGreat

namespace Go.Proofs.YtbanccfdojgocaaGreat
open Go
namespace Fm
noncomputable def monF (x:Exq) (W:List Int):Int:=if mvd x W=0 then vdt x (ngt x) W else mvd x W
end Fm
namespace Fm
end Fm
end Go.Proofs.YtbanccfdojgocaaGreat

namespace Go.Proofs.YtbanccfdojgocaaGreat
open Go
theorem c_MonitorFormula {h:Heap}{v w:Value}{x:Exq}{W:List Int}(R:Rep h v x) (RW:Rep h w W):CallE Tryz.prog fn_impl_MonitorFormula [v,w] h (fun u h'=>h.le h'∧u=.int .i64 (Fm.monF x W)):=by
 have FX:=R.aExq
 refine CallE.gen fun k hk=>EN_impl_MonitorFormula rfl ?_
 simp -implicitDefEqProofs (disch:=first|omega|(simp only[LnZ];omega))[wrap64,FX]
 refine (c_monitorRun R RW).go ?_
 rintro _ h1 ⟨l,rfl,H⟩
 unfold Fm.monF at hk
 by_cases hm:Fm.mvd x W=0
 case neg=>
  rw[if_neg hm] at hk
  simp -implicitDefEqProofs (disch:=first|omega|(simp only[LnZ];omega))[wrap64,hm]
  exact RetK.keep (hk _ _ ⟨H.base,rfl⟩)
 rw[if_pos hm] at hk
 rw[Fm.monL,if_pos hm] at H
 have hl:=Fm.runs_len (x:=x) (W:=W)
 have hli:((Fm.runs x W).length:Int)-1=(W.length:Nat):=by omega
 have hR:=RW.lt
 have ha:=Fm.runs_at (x:=x) (W:=W) (i:=W.length) (by omega)
 rw[List.take_length] at ha
 simp -implicitDefEqProofs (disch:=first|omega|(simp only[LnZ];omega))[wrap64,hm,H.rep.I,hli,ha]
 exact RetK.keep (hk _ _ ⟨H.base,rfl⟩)
theorem c_spec_MonitorFormula {h:Heap}{v w:Value}{x:Exq}{W:List Int}(R:Rep h v x) (RW:Rep h w W):CallE Tryz.prog fn_spec_MonitorFormula [v,w] h (fun u h'=>h.le h'∧u=.int .i64 (Fm.monF x W)):=by
 have FX:=R.aExq
 refine CallE.gen fun k hk=>EN_spec_MonitorFormula rfl ?_
 unfold Fm.monF at hk
 simp -implicitDefEqProofs (disch:=first|omega|(simp only[LnZ];omega))[wrap64,FX]
 refine (c_spec_FormulaValid R).go ?_
 rintro _ h1 ⟨rfl,rfl⟩
 by_cases q1:Fm.Ok x
 case neg=>
  have hm:=Fm.mvd_3 (x:=x) (W:=W) fun hh=>q1 hh.1
  rw[if_neg (by omega),hm] at hk
  simp -implicitDefEqProofs (disch:=first|omega|(simp only[LnZ];omega))[wrap64,q1]
  exact RetK.keep (hk _ _ ⟨Heap.le.refl _,rfl⟩)
 simp -implicitDefEqProofs (disch:=first|omega|(simp only[LnZ];omega))[wrap64,q1]
 refine (c_l12Word RW).go ?_
 rintro _ h1 ⟨rfl,rfl⟩
 by_cases q2:Wok W
 case neg=>
  have hm:=Fm.mvd_3 (x:=x) (W:=W) fun hh=>q2 hh.2
  rw[if_neg (by omega),hm] at hk
  simp -implicitDefEqProofs (disch:=first|omega|(simp only[LnZ];omega))[wrap64,q2]
  exact RetK.keep (hk _ _ ⟨Heap.le.refl _,rfl⟩)
 simp -implicitDefEqProofs (disch:=first|omega|(simp only[LnZ];omega))[wrap64,q2,FX]
 refine (c_l12Both R q1).go ?_
 rintro _ h2 ⟨wa,wb,rfl,H⟩
 have FA:=H.rep.aAut
 have FB:=H.sw1.rep.aAut
 by_cases q3:Fm.trOk x∧Fm.trOk (Fm.ngt x)
 case neg=>
  have hm:=Fm.mvd_4 ⟨q1,q2⟩ q3
  rw[if_neg (by omega),hm] at hk
  simp -implicitDefEqProofs (disch:=first|omega|(simp only[LnZ];omega))[wrap64,q3,FA,FB,setC]
  exact RetK.keep (hk _ _ ⟨H.base,rfl⟩)
 have hm:=Fm.mvd_0 ⟨q1,q2⟩ q3
 rw[if_pos hm] at hk
 rw[Fm.trR,if_pos q3.1,Fm.trR,if_pos q3.2] at H
 simp -implicitDefEqProofs (disch:=first|omega|(simp only[LnZ];omega))[wrap64,q3.1,q3.2,FA,FB,setC]
 refine (c_l12Verdict H.rep H.sw1.rep (RW.on H) (Fm.trA_ok q3.1) (Fm.trA_ok q3.2)).go ?_
 rintro _ h3 ⟨l3,rfl⟩
 simp -implicitDefEqProofs (disch:=first|omega|(simp only[LnZ];omega))[wrap64]
 exact RetK.keep (hk _ _ ⟨H.base.trans l3,rfl⟩)
end Go.Proofs.YtbanccfdojgocaaGreat

namespace Go.Proofs.YtbanccfdojgocaaGreat
open Go
theorem c_FnExactMonitorFormula {h:Heap}{v0:Value}{a0:Exq}(R0:Rep h v0 a0) {v1:Value}{a1:List Int}(R1:Rep h v1 a1):CallE Tryz.prog fn_laws_FnExactMonitorFormula [v0,v1] h (fun u h'=>h.le h'∧u=.bool true):=by
 refine CallE.gen fun k hk=>EN_laws_FnExactMonitorFormula rfl ?_
 have F0:=R0.aExq
 simp -implicitDefEqProofs (disch:=first|omega|(simp only[LnZ];omega))[wrap64,F0,R1.len]
 refine IteW.mk (fun hlt=>?_) (fun hge1=>?_)
 ·simp -implicitDefEqProofs (disch:=first|omega|(simp only[LnZ];omega))[wrap64]
  exact RetK.keep (hk _ _ ⟨Heap.le.refl _,rfl⟩)
 have q1:Sz.sz a1≤1048576:=by rw[sz_list,szL_zero (fun _=>rfl)]; omega
 simp -implicitDefEqProofs (disch:=first|omega|(simp only[LnZ];omega))[wrap64,F0]
 refine (c_szFormula _ R0 (n:=1048576) (by omega)).go ?_
 rintro _ h ⟨rfl,l0,rfl,q0⟩
 simp -implicitDefEqProofs (disch:=first|omega|(simp only[LnZ];omega))[wrap64,F0]
 refine IteW.mk (fun hlt=>?_) (fun hge0=>?_)
 ·simp -implicitDefEqProofs (disch:=first|omega|(simp only[LnZ];omega))[wrap64]
  exact RetK.keep (hk _ _ ⟨Heap.le.refl _,rfl⟩)
 have qq0:Sz.sz a0≤1048576:=by omega
 simp -implicitDefEqProofs (disch:=first|omega|(simp only[LnZ];omega))[wrap64,F0]
 refine (c_toFormula _ R0 (by omega)).go ?_
 intro s0 m1 H
 have F1:=H.rep.aExq
 simp -implicitDefEqProofs (disch:=first|omega|(simp only[LnZ];omega))[wrap64,F0,F1]
 refine (c_toIntS (R1.on H) (by omega)).go ?_
 intro s1 m2 G
 have H:=G.app H
 simp -implicitDefEqProofs (disch:=first|omega|(simp only[LnZ];omega))[wrap64,F0,F1]
 refine (c_spec_MonitorFormula H.sw1.rep H.rep).go ?_
 rintro _ m3 ⟨l3,rfl⟩
 have H:=H.le l3
 simp -implicitDefEqProofs (disch:=first|omega|(simp only[LnZ];omega))[wrap64,F0]
 refine (c_toFormula _ (R0.on H) (by omega)).go ?_
 intro x0 m4 G
 have H:=G.app H
 have F2:=H.rep.aExq
 simp -implicitDefEqProofs (disch:=first|omega|(simp only[LnZ];omega))[wrap64,F0,F2]
 refine (c_toIntS (R1.on H) (by omega)).go ?_
 intro x1 m5 G
 have H:=G.app H
 simp -implicitDefEqProofs (disch:=first|omega|(simp only[LnZ];omega))[wrap64,F0,F2]
 refine (c_MonitorFormula H.sw1.rep H.rep).go ?_
 rintro _ m6 ⟨l6,rfl⟩
 have H:=H.le l6
 simp -implicitDefEqProofs (disch:=first|omega|(simp only[LnZ];omega))[wrap64,F0,F2]
 refine (c_toFormula _ (R0.on H) (by omega)).go ?_
 intro t0 m7 G
 have H:=G.app H
 have F3:=H.rep.aExq
 simp -implicitDefEqProofs (disch:=first|omega|(simp only[LnZ];omega))[wrap64,F0,F2,F3]
 refine (c_eqFormula H.sw2.rep H.rep).go ?_
 rintro _ _ ⟨rfl,rfl⟩
 simp -implicitDefEqProofs (disch:=first|omega|(simp only[LnZ];omega))[wrap64,F0,F2,F3]
 refine (c_toIntS (R1.on H) (by omega)).go ?_
 intro t1 m8 G
 have H:=G.app H
 simp -implicitDefEqProofs (disch:=first|omega|(simp only[LnZ];omega))[wrap64,F0,F2,F3]
 refine (c_eqIntS H.sw2.rep H.rep).go ?_
 rintro _ _ ⟨rfl,rfl⟩
 simp -implicitDefEqProofs (disch:=first|omega|(simp only[LnZ];omega))[wrap64]
 exact RetK.keep (hk _ _ ⟨H.base,rfl⟩)
end Go.Proofs.YtbanccfdojgocaaGreat
