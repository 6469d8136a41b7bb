/-
  Texts of this proof, one behind the other.
-/
import Derived.Test.YtielhfonnleldaaGreatYF7
set_option linter.all false
set_option linter.unusedVariables false
set_option linter.unusedSimpArgs false
set_option linter.defProp false
set_option maxRecDepth 1000000
namespace Go.Proofs.YtielhfonnleldaaGreat
open Go
def H_laws_FnShortestBad:Hint:=⟨[(0,false),(2,false),(3,true),(4,false),(5,false),(6,false),(7,false),(8,false),(9,true),(10,false),(11,false),(12,false),(13,false)],[[0,1,2,5,6,7,11,12]]⟩
abbrev K5_1:C:=.seq (.pl <| .e 13 7 <|
 .m 13 9 <|
 .m 14 13 <|
 .y 14 (.px (some 15) (.mv (.v 4))) <|
 .y 14 (.px (some 16) (.lenV (.v 15))) <|
 .y 14 (.px (some 17) (.mv (.v 3))) <|
 .y 14 (.px (some 18) (.bin .leq (.v 16) (.v 17))) <|
 .x 19 (.pick (.v 14) (.v 18) (.c (.bool false))) <|
 .m 1 19 .done) (.ret)
abbrev K5_2:C:=.pl <| .e 13 2 <|
 .m 13 10 <|
 .x 14 (.bin .add (.v 13) (.c (.int .i64 1))) <|
 .m 10 14 .done
abbrev K5_3:C:=.seq (.pl <| .e 13 0 <|
 .x 1 (.mv (.c (.bool false))) .done) (.ret)
abbrev K5_4:C:=.cond 13 (.v 24) K5_3 (.skip)
abbrev K5_5:C:=.seq (.pl <| .e 13 12 <|
 .m 13 12 <|
 .x 14 (.un .not (.v 13)) <|
 .m 15 14 <|
 .n 15 (.px (some 16) (.mv (.v 11))) <|
 .n 15 (.px (some 17) (.lenV (.v 16))) <|
 .n 15 (.px (some 18) (.bin .eql (.v 17) (.c (.int .i64 0)))) <|
 .n 15 (.px (some 19) (.mv (.v 10))) <|
 .n 15 (.px (some 20) (.mv (.v 4))) <|
 .n 15 (.px (some 21) (.lenV (.v 20))) <|
 .n 15 (.px (some 22) (.bin .eql (.v 19) (.v 21))) <|
 .n 15 (.px (some 23) (.eqb true (.v 18) (.v 22))) <|
 .x 24 (.pick (.v 15) (.c (.bool true)) (.v 23)) .done) K5_4
abbrev K5_6:Pl:=.m 18 17 <|
 .x 19 (.extract 0 (.v 18)) <|
 .x 20 (.extract 1 (.v 18)) <|
 .m 11 19 <|
 .m 12 20 .done
abbrev K5_7:C:=.seq (.block 1 (.seq (.pl <| .e 13 8 <|
 .o (.pget (some 13) none 8 0 (some 3)) <|
 .m 14 4 <|
 .m 15 10 <|
 .x 16 (.sliceV 1 (.v 14) none (some (.v 15)) none) <|
 .c 17 (.call fn_impl_PrefixStates [.v 13,.v 16]) K5_6) K5_5)) K5_2
abbrev K5_8:C:=.cond 13 (.v 16) (.skip) (.exit 0)
abbrev K5_9:C:=.seq (.seq (.pl <| .e 13 4 <|
 .m 13 10 <|
 .m 14 4 <|
 .x 15 (.lenV (.v 14)) <|
 .x 16 (.bin .leq (.v 13) (.v 15)) .done) K5_8) K5_7
abbrev K5_10:C:=.block 0 (.loop 13 [0,1,2,5,6,7,11,12] K5_9)
abbrev K5_11:C:=.seq (.seq (.pl <| .e 13 0 <|
 .x 10 (.mv (.c (.int .i64 0))) .done) K5_10) K5_1
abbrev K5_12:Pl:=.m 15 14 <|
 .x 16 (.extract 0 (.v 15)) <|
 .x 17 (.extract 1 (.v 15)) <|
 .o (.pnew 8 (.c (.agg #[.slice none 0 0,.slice none 0 0,.slice none 0 0])) []) <|
 .o (.pset none 8 0 3 (.v 16)) <|
 .m 9 17 .done
abbrev K5_13:C:=.seq (.pl <| .e 13 5 <|
 .o (.pget (some 13) none 2 0 (some 3)) <|
 .c 14 (.call fn_impl_TranslateFormula [.v 13]) K5_12) K5_11
abbrev K5_14:Pl:=.x 20 (.pick (.v 16) (.v 19) (.c (.bool false))) <|
 .m 1 20 .done
abbrev K5_15:C:=.seq (.pl <| .e 13 8 <|
 .m 13 5 <|
 .m 14 7 <|
 .x 15 (.eqb false (.v 13) (.v 14)) <|
 .m 16 15 <|
 .y 16 (.px (some 17) (.mv (.v 4))) <|
 .y 16 (.px (some 18) (.mv (.v 6))) <|
 .st (.act (some (.v 16,true)) (.ex (some 19) (.call fn_laws_wpInts [.v 17,.v 18]))) K5_14) (.ret)
abbrev K5_16:C:=.cond 13 (.v 25) K5_15 (.skip)
abbrev K5_17:Pl:=.n 16 (.px (some 20) (.un .not (.v 19))) <|
 .x 21 (.pick (.v 16) (.c (.bool true)) (.v 20)) <|
 .m 22 21 <|
 .n 22 (.px (some 23) (.mv (.v 5))) <|
 .n 22 (.px (some 24) (.un .not (.v 23))) <|
 .x 25 (.pick (.v 22) (.c (.bool true)) (.v 24)) .done
abbrev K5_18:C:=.seq (.seq (.pl <| .e 13 13 <|
 .m 13 5 <|
 .m 14 7 <|
 .x 15 (.eqb true (.v 13) (.v 14)) <|
 .m 16 15 <|
 .n 16 (.px (some 17) (.mv (.v 4))) <|
 .n 16 (.px (some 18) (.mv (.v 6))) <|
 .st (.act (some (.v 16,false)) (.ex (some 19) (.call fn_laws_wpInts [.v 17,.v 18]))) K5_17) K5_16) K5_13
abbrev K5_19:Pl:=.m 16 15 <|
 .x 17 (.extract 0 (.v 16)) <|
 .x 18 (.extract 1 (.v 16)) <|
 .m 6 17 <|
 .m 7 18 .done
abbrev K5_20:C:=.seq (.pl <| .e 13 6 <|
 .o (.pget (some 13) none 2 0 (some 3)) <|
 .m 14 3 <|
 .c 15 (.call fn_spec_ShortestBad [.v 13,.v 14]) K5_19) K5_18
abbrev K5_21:Pl:=.m 16 15 <|
 .x 17 (.extract 0 (.v 16)) <|
 .x 18 (.extract 1 (.v 16)) <|
 .m 4 17 <|
 .m 5 18 .done
abbrev K5_22:C:=.seq (.pl <| .e 13 6 <|
 .o (.pget (some 13) none 2 0 (some 3)) <|
 .m 14 3 <|
 .c 15 (.call fn_impl_ShortestBad [.v 13,.v 14]) K5_21) K5_20
abbrev K5_23:Pl:=.m 15 14 <|
 .x 16 (.extract 0 (.v 15)) <|
 .x 17 (.extract 1 (.v 15)) <|
 .o (.pnew 2 (.c (.agg #[.int .i64 0,.int .i64 0,.slice none 0 0])) []) <|
 .o (.pset none 2 0 3 (.v 16)) <|
 .m 3 17 .done
abbrev K5_24:C:=.seq (.pl <| .e 13 5 <|
 .m 13 0 <|
 .c 14 (.call fn_spec_DrawShortestBad [.v 13]) K5_23) K5_22
abbrev K5_25:C:=.seq (.pl <| .e 13 0 <|
 .x 1 (.mv (.c (.bool true))) .done) (.ret)
abbrev K5_26:C:=.cond 13 (.v 15) K5_25 (.skip)
abbrev K5_27:C:=.seq (.seq (.pl <| .e 13 3 <|
 .m 13 0 <|
 .x 14 (.lenV (.v 13)) <|
 .x 15 (.bin .gtr (.v 14) (.c (.int .i64 1048576))) .done) K5_26) K5_24
abbrev B_laws_FnShortestBad:C:=.seq (.pl <| .e 13 0 <|
 .x 1 (.mv (.c (.bool false))) .done) K5_27
def R_laws_FnShortestBad:FIR:=⟨B_laws_FnShortestBad,13,[(1,none)]⟩
theorem IR_laws_FnShortestBad:cfun Tryz.prog H_laws_FnShortestBad Tryz.f5=some R_laws_FnShortestBad:=by kernel_rfl
theorem EN_laws_FnShortestBad:ENT Tryz.prog B_laws_FnShortestBad [(1,none)] 1 13 fn_laws_FnShortestBad:=fun hargs hw=>enter Tryz.func5 rfl IR_laws_FnShortestBad hargs hw
set_option maxHeartbeats 1000000 in
theorem c_FnShortestBad {h:Heap}{v:Value}{l:List (BitVec 8)}(R:Rep h v l):CallE Tryz.prog fn_laws_FnShortestBad [v] h (fun u h'=>h.le h'∧u=.bool true):=by
 refine CallE.gen fun k hk=>EN_laws_FnShortestBad rfl ?_
 by_cases a1:(1048576:Int)<l.length
 ·simp -implicitDefEqProofs (disch:=first|omega|(simp only[LnZ];omega))[wrap64,R.len,a1]
  exact RetK.keep (hk _ _ ⟨Heap.le.refl _,rfl⟩)
 simp -implicitDefEqProofs (disch:=first|omega|(simp only[LnZ];omega))[wrap64,R.len,a1]
 refine (c_DrawShortestBad R).go ?_
 rintro _ h1 ⟨u1,x,most,rfl,l1,Rx,hmo⟩
 have FX:=Rx.aExq
 simp -implicitDefEqProofs (disch:=first|omega|(simp only[LnZ];omega))[wrap64,FX,setC]
 refine (c_ShortestBad Rx hmo).go ?_
 rintro _ h2 ⟨w1,rfl,H⟩
 have Rx:=Rx.on H
 simp -implicitDefEqProofs (disch:=first|omega|(simp only[LnZ];omega))[wrap64,FX,setC]
 refine (c_spec_ShortestBad Rx hmo).go ?_
 rintro _ h3 ⟨w2,rfl,H2⟩
 have H:=H2.app H
 have Rx:=Rx.on H2
 have lb:=l1.trans H.base
 have R2:=H.rep
 have R1:=H.sw1.rep
 clear H H2
 cases hq:sbR x most with
 | none=>
  rw[hq] at R1 R2
  simp -implicitDefEqProofs (disch:=omega)[wrap64]
  refine (c_wpInts R1 R2).go ?_
  rintro _ h3 ⟨rfl,rfl⟩
  simp -implicitDefEqProofs (disch:=omega)[wrap64]
  refine (c_wpInts R1 R2).go ?_
  rintro _ h3 ⟨rfl,rfl⟩
  simp -implicitDefEqProofs (disch:=omega)[wrap64]
  exact RetK.keep (hk _ _ ⟨lb,rfl⟩)
 | some W=>
  rw[hq] at R1 R2
  simp only[Option.getD_some] at R1 R2
  obtain⟨ht,ha,hf,hw⟩:=sbR_some hq
  simp -implicitDefEqProofs (disch:=omega)[wrap64]
  refine (c_wpInts R1 R2).go ?_
  rintro _ h3 ⟨rfl,rfl⟩
  simp -implicitDefEqProofs (disch:=first|omega|(simp only[LnZ];omega))[wrap64,FX]
  refine (c_TranslateFormula Rx).go ?_
  rintro _ h4 ⟨wa,rfl,H⟩
  rw[Fm.trR,if_pos ht] at H
  have FA:=H.rep.aAut
  have R1:=R1.on H
  have RA:=H.rep
  have lb:=lb.trans H.base
  clear H
  have hWl:W.length≤200:=hw.1
  have hmost:(W.length:Int)≤most:=hf.le
  simp -implicitDefEqProofs (disch:=first|omega|(simp only[LnZ];omega))[wrap64,FA,ht,setC]
  refine wp_count (W.length+1) (fun i e h'=>e=[none,none,none,some (.int .i64 most),some w1,none,none,none,some wa,some (.bool true),some (.int .i64 i),none,none]∧h4.le h') ⟨by simp,Heap.le.refl _⟩ ?_
  rintro J i _ h5 hJ hi ⟨rfl,l5⟩
  have R1:=R1.le l5
  have RA:=RA.le l5
  simp -implicitDefEqProofs (disch:=first|omega|(simp only[LnZ];omega))[wrap64,R1.len]
  by_cases hin:i<W.length+1
  case neg=>
   have hgt:¬i≤W.length:=by omega
   simp -implicitDefEqProofs (disch:=first|omega|(simp only[LnZ];omega))[wrap64,hgt,R1.len,hmost]
   exact RetK.keep (hk _ _ ⟨lb.trans l5,rfl⟩)
  have hle:i≤W.length:=by omega
  obtain⟨t,htt,Rt⟩:=R1.cut (n:=i) (esz:=1) (k:=.i64) (by omega)
  have htt:sliceVV 1 w1 none (some (some (.int .i64 i))) none=some t:=htt
  have hwt:Wok (W.take i):=⟨by rw[List.length_take];omega,fun y hy=>hw.2 y (List.mem_of_mem_take hy)⟩
  simp -implicitDefEqProofs (disch:=first|omega|(simp only[LnZ];omega))[wrap64,hle,htt,FA]
  refine (c_PrefixStates RA Rt).go ?_
  rintro _ h6 ⟨vs,rfl,H5⟩
  rw[preV,if_pos ⟨ha,hwt⟩] at H5
  have hsl:=H5.rep.len
  have nxt:=hJ
  by_cases q:i=W.length
  ·subst q
   have hnil:((Fm.trA x).states (W.take W.length)).length=0:=by rw[List.take_length,hf.nil];rfl
   have hnil':(Fm.trA x).states W=[]:=hf.nil
   simp -implicitDefEqProofs (disch:=first|omega|(simp only[LnZ];omega))[wrap64,ha,hw,hsl,hnil,hnil',R1.len,(R1.on H5).len]
   exact hJ _ _ hin ⟨by simp,l5.trans H5.base⟩
  ·have hne:¬((Fm.trA x).states (W.take i)).length=0:=fun e=>hf.pre i (by omega) (List.length_eq_zero_iff.1 e)
   have hne':¬(Fm.trA x).states (W.take i)=[]:=hf.pre i (by omega)
   have hnei:¬(((Fm.trA x).states (W.take i)).length:Int)=0:=by omega
   have qi:¬(i:Int)=W.length:=by omega
   simp -implicitDefEqProofs (disch:=first|omega|(simp only[LnZ];omega))[wrap64,ha,hwt,hsl,hne,hne',hnei,q,qi,R1.len,(R1.on H5).len]
   exact hJ _ _ hin ⟨by simp,l5.trans H5.base⟩
end Go.Proofs.YtielhfonnleldaaGreat
