/-
  Texts of this proof, one behind the other.
-/
import Derived.Test.YtedbaenahnfhfaaGreatYF8
set_option linter.all false
set_option linter.unusedVariables false
set_option linter.unusedSimpArgs false
set_option linter.defProp false
set_option maxRecDepth 1000000
namespace Go.Proofs.YtedbaenahnfhfaaGreat
open Go
def H_laws_FnMonitorWeaker:Hint:=⟨[(0,false),(1,false),(4,false),(5,true),(6,false),(7,true),(9,false),(10,false)],[]⟩
abbrev K5_1:Pl:=.x 12 (.bin .eql (.v 8) (.v 11)) <|
 .m 13 12 <|
 .y 13 (.px (some 14) (.mv (.v 6))) <|
 .y 13 (.px (some 15) (.bin .neq (.v 14) (.c (.int .i64 1)))) <|
 .y 13 (.px (some 16) (.mv (.v 15))) <|
 .n 16 (.px (some 17) (.mv (.v 7))) <|
 .n 16 (.px (some 18) (.bin .eql (.v 17) (.c (.int .i64 1)))) <|
 .y 13 (.px (some 19) (.pick (.v 16) (.c (.bool true)) (.v 18))) <|
 .y 13 (.px (some 20) (.mv (.v 19))) <|
 .n 20 (.px (some 21) (.mv (.v 7))) <|
 .n 20 (.px (some 22) (.bin .geq (.v 21) (.c (.int .i64 3)))) <|
 .y 13 (.px (some 23) (.pick (.v 20) (.c (.bool true)) (.v 22))) <|
 .x 24 (.pick (.v 13) (.v 23) (.c (.bool false))) <|
 .m 2 24 .done
abbrev K5_2:C:=.seq (.pl <| .e 8 17 <|
 .m 8 6 <|
 .o (.pget (some 9) none 3 0 (some 3)) <|
 .m 10 4 <|
 .c 11 (.call fn_spec_MonitorFormula [.v 9,.v 10]) K5_1) (.ret)
abbrev K5_3:Pl:=.m 7 13 .done
abbrev K5_4:Pl:=.x 11 (.build [.int .i64 0,.int .i64 0,.slice none 0 0] [(0,1,.c (.int .i64 5)),(2,1,.v 10)]) <|
 .m 12 4 <|
 .c 13 (.call fn_impl_MonitorFormula [.v 11,.v 12]) K5_3
abbrev K5_5:C:=.seq (.pl <| .e 8 6 <|
 .o (.pget (some 8) none 3 0 (some 3)) <|
 .o (.pget (some 9) none 5 0 (some 3)) <|
 .c 10 (.bls 3 2 [.int .i64 0,.int .i64 0,.slice none 0 0] [(0,3,.v 8),(3,3,.v 9)]) K5_4) K5_2
abbrev K5_6:Pl:=.m 6 10 .done
abbrev K5_7:C:=.seq (.pl <| .e 8 3 <|
 .o (.pget (some 8) none 3 0 (some 3)) <|
 .m 9 4 <|
 .c 10 (.call fn_impl_MonitorFormula [.v 8,.v 9]) K5_6) K5_5
abbrev K5_8:Pl:=.m 10 9 <|
 .x 11 (.extract 0 (.v 10)) <|
 .x 12 (.extract 1 (.v 10)) <|
 .o (.pnew 5 (.c (.agg #[.int .i64 0,.int .i64 0,.slice none 0 0])) []) <|
 .o (.pset none 5 0 3 (.v 11)) <|
 .m 13 12 .done
abbrev K5_9:C:=.seq (.pl <| .e 8 6 <|
 .m 8 1 <|
 .c 9 (.call fn_spec_DrawMonitorFormula [.v 8]) K5_8) K5_7
abbrev K5_10:Pl:=.m 10 9 <|
 .x 11 (.extract 0 (.v 10)) <|
 .x 12 (.extract 1 (.v 10)) <|
 .o (.pnew 3 (.c (.agg #[.int .i64 0,.int .i64 0,.slice none 0 0])) []) <|
 .o (.pset none 3 0 3 (.v 11)) <|
 .m 4 12 .done
abbrev K5_11:C:=.seq (.pl <| .e 8 5 <|
 .m 8 0 <|
 .c 9 (.call fn_spec_DrawMonitorFormula [.v 8]) K5_10) K5_9
abbrev K5_12:C:=.seq (.pl <| .e 8 0 <|
 .x 2 (.mv (.c (.bool true))) .done) (.ret)
abbrev K5_13:C:=.cond 8 (.v 15) K5_12 (.skip)
abbrev K5_14:C:=.seq (.seq (.pl <| .e 8 8 <|
 .m 8 0 <|
 .x 9 (.lenV (.v 8)) <|
 .x 10 (.bin .gtr (.v 9) (.c (.int .i64 1048576))) <|
 .m 11 10 <|
 .n 11 (.px (some 12) (.mv (.v 1))) <|
 .n 11 (.px (some 13) (.lenV (.v 12))) <|
 .n 11 (.px (some 14) (.bin .gtr (.v 13) (.c (.int .i64 1048576)))) <|
 .x 15 (.pick (.v 11) (.c (.bool true)) (.v 14)) .done) K5_13) K5_11
abbrev B_laws_FnMonitorWeaker:C:=.seq (.pl <| .e 8 0 <|
 .x 2 (.mv (.c (.bool false))) .done) K5_14
def R_laws_FnMonitorWeaker:FIR:=⟨B_laws_FnMonitorWeaker,8,[(2,none)]⟩
theorem IR_laws_FnMonitorWeaker:cfun Tryz.prog H_laws_FnMonitorWeaker Tryz.f5=some R_laws_FnMonitorWeaker:=by kernel_rfl
theorem EN_laws_FnMonitorWeaker:ENT Tryz.prog B_laws_FnMonitorWeaker [(2,none)] 2 8 fn_laws_FnMonitorWeaker:=fun hargs hw=>enter Tryz.func5 rfl IR_laws_FnMonitorWeaker hargs hw
namespace Fm
theorem vdt_weaker {x y x2 y2:Exq}(h:Dual x y) (h2:Dual x2 y2) (hi:∀w,sat w x 0→sat w x2 0) {W:List Int}(hW:LtW W) (hg:vdt x y W=1):vdt x2 y2 W=1:=by
 rw[vdt_good h2 hW,h2.good hW]
 exact fun w h3 h4=>hi w ((h.good hW).1 ((vdt_good h hW).1 hg) w h3 h4)
end Fm
theorem Fm.mon_weaker {x z:Exq}{W:List Int}(h1:Fm.monF x W=1) (h3:Fm.monF (.mk 5 0 [x,z]) W<3):Fm.monF (.mk 5 0 [x,z]) W=1:=by
 have m1:=Fm.monF_lt (x:=x) (W:=W) (by omega)
 have m2:=Fm.monF_lt h3
 obtain⟨⟨_,hw⟩,t1,t2⟩:=Fm.mvd_ok m1
 obtain⟨_,t3,t4⟩:=Fm.mvd_ok m2
 rw[Fm.monF,if_pos m1] at h1
 rw[Fm.monF,if_pos m2]
 refine Fm.vdt_weaker (Fm.dual_of t1 t2) (Fm.dual_of t3 t4) (fun w hs=>?_) hw.2 h1
 rw[Fm.sat5 rfl]
 exact .inl hs
theorem c_FnMonitorWeaker {h:Heap}{v w:Value}{l m:List (BitVec 8)}(R:Rep h v l) (RM0:Rep h w m):CallE Tryz.prog fn_laws_FnMonitorWeaker [v,w] h (fun u h'=>h.le h'∧u=.bool true):=by
 refine CallE.gen fun k hk=>EN_laws_FnMonitorWeaker rfl ?_
 by_cases a1:(1048576:Int)<l.length
 ·simp -implicitDefEqProofs (disch:=first|omega|(simp only[LnZ];omega))[wrap64,R.len,a1]
  exact RetK.keep (hk _ _ ⟨Heap.le.refl _,rfl⟩)
 by_cases a2:(1048576:Int)<m.length
 ·simp -implicitDefEqProofs (disch:=first|omega|(simp only[LnZ];omega))[wrap64,R.len,RM0.len,a1,a2]
  exact RetK.keep (hk _ _ ⟨Heap.le.refl _,rfl⟩)
 simp -implicitDefEqProofs (disch:=first|omega|(simp only[LnZ];omega))[wrap64,R.len,RM0.len,a1,a2]
 refine (c_DrawMonitorFormula R).go ?_
 rintro _ h1 ⟨u1,u2,x,W,rfl,l1,Rx,RW,hWl⟩
 have FX:=Rx.aExq
 simp -implicitDefEqProofs (disch:=first|omega|(simp only[LnZ];omega))[wrap64,FX,setC]
 refine (c_DrawMonitorFormula (RM0.le l1)).go ?_
 rintro _ h2 ⟨y1,y2,z,V,rfl,l2,Rz,RV,_⟩
 have Rx:=Rx.le l2
 have RW:=RW.le l2
 have FZ:=Rz.aExq
 simp -implicitDefEqProofs (disch:=first|omega|(simp only[LnZ];omega))[wrap64,FX,FZ,setC]
 refine (c_MonitorFormula Rx RW).go ?_
 rintro _ h3 ⟨l3,rfl⟩
 have Rx:=Rx.le l3
 have Rz:=Rz.le l3
 have RW:=RW.le l3
 have hx:=Rx
 have hz:=Rz
 obtain⟨xw,hxw,_,_,_⟩:=Rep_Exq.1 hx
 subst hxw
 obtain⟨zw,hzw,_,_,_⟩:=Rep_Exq.1 hz
 subst hzw
 simp -implicitDefEqProofs (disch:=first|omega|(simp only[LnZ];omega))[wrap64,FX,FZ,setC]
 refine bls_two (α:=Exq) Rx Rz rfl fun sl h4 l4 Rs=>?_
 have Ro:Rep h4 (.agg #[.int .i64 5,.int .i64 0,sl]) (Exq.mk 5 0 [x,z]):=Rep_Exq.2 ⟨_,rfl,show I64 5 from ⟨by decide,by decide⟩,i64_0,Rs⟩
 simp -implicitDefEqProofs (disch:=first|omega|(simp only[LnZ];omega))[wrap64,Rs.one,Rs.cells,setC]
 refine (c_MonitorFormula Ro (RW.le l4)).go ?_
 rintro _ h5 ⟨l5,rfl⟩
 have l45:=l4.trans l5
 simp -implicitDefEqProofs (disch:=first|omega|(simp only[LnZ];omega))[wrap64,FX]
 refine (c_spec_MonitorFormula (Rx.le l45) (RW.le l45)).go ?_
 rintro _ h6 ⟨l6,rfl⟩
 have lb:=l1.trans (l2.trans (l3.trans (l45.trans l6)))
 by_cases q1:Fm.monF x W=1
 ·by_cases q2:Fm.monF (.mk 5 0 [x,z]) W=1
  ·simp -implicitDefEqProofs (disch:=first|omega|(simp only[LnZ];omega))[wrap64,q1,q2]
   exact RetK.keep (hk _ _ ⟨lb,rfl⟩)
  ·have q3:3≤Fm.monF (.mk 5 0 [x,z]) W:=by
    apply Classical.byContradiction
    intro hh
    exact q2 (Fm.mon_weaker (z:=z) q1 (by omega))
   simp -implicitDefEqProofs (disch:=first|omega|(simp only[LnZ];omega))[wrap64,q1,q2,q3]
   exact RetK.keep (hk _ _ ⟨lb,rfl⟩)
 ·simp -implicitDefEqProofs (disch:=first|omega|(simp only[LnZ];omega))[wrap64,q1]
  exact RetK.keep (hk _ _ ⟨lb,rfl⟩)
end Go.Proofs.YtedbaenahnfhfaaGreat
