/-
  Texts of this proof, one behind the other.
-/
import Derived.Test.YtbanccfdojgocaaGreatYF7
set_option linter.all false
set_option linter.unusedVariables false
set_option linter.unusedSimpArgs false
set_option linter.defProp false
set_option maxRecDepth 1000000
namespace Go.Proofs.YtbanccfdojgocaaGreat
open Go
section
variable {α:Type}
end
namespace Exq
theorem eta (x:Exq):Exq.mk x.kind x.val x.kids=x:=by cases x; rfl
end Exq
namespace Exq
end Exq
section
variable {g h r:Heap}{Γ:List HP}{v:Value}{cs:List Value}
end
section
variable {g h r:Heap}{Γ:List HP}{v:Value}{cs:List Value}
end
end Go.Proofs.YtbanccfdojgocaaGreat

namespace Go.Proofs.YtbanccfdojgocaaGreat
open Go
def H_laws_FnTranslateEquivalent:Hint:=⟨[(0,false),(1,false),(4,false),(5,true),(6,true),(7,true),(8,true),(9,false),(10,true),(11,false),(12,true),(13,false),(14,true),(15,false),(16,false),(17,false),(18,false),(19,false)],[]⟩
def K4_1:Pl:=.x 23 (.pick (.v 19) (.v 22) (.c (.bool false))) <|
 .m 24 23 <|
 .y 24 (.px (some 25) (.mv (.v 15))) <|
 .y 24 (.px (some 26) (.mv (.v 17))) <|
 .y 24 (.px (some 27) (.eqb false (.v 25) (.v 26))) <|
 .x 28 (.pick (.v 24) (.v 27) (.c (.bool false))) <|
 .m 29 28 <|
 .y 29 (.px (some 30) (.mv (.v 14))) <|
 .y 29 (.px (some 31) (.mv (.v 16))) <|
 .y 29 (.px (some 32) (.eqb false (.v 30) (.v 31))) <|
 .x 33 (.pick (.v 29) (.v 32) (.c (.bool false))) <|
 .m 2 33 .done
@[simp] def W4_1 := Pl.w K4_1.eq_1
def K4_2:C:=.seq (.pl <| .e 18 16 <|
 .m 18 13 <|
 .m 19 18 <|
 .y 19 (.pget (some 20) none 8 0 (some 3)) <|
 .y 19 (.pget (some 21) none 12 0 (some 3)) <|
 .st (.act (some (.v 19,true)) (.ex (some 22) (.call fn_impl_AutomatonSame [.v 20,.v 21]))) K4_1) (.ret)
@[simp] def W4_2 := C.w K4_2.eq_1
def K4_3:Pl:=.m 21 20 <|
 .x 22 (.extract 0 (.v 21)) <|
 .x 23 (.extract 1 (.v 21)) <|
 .m 16 22 <|
 .m 17 23 .done
@[simp] def W4_3 := Pl.w K4_3.eq_1
def K4_4:C:=.seq (.pl <| .e 18 6 <|
 .o (.pget (some 18) none 12 0 (some 3)) <|
 .o (.pget (some 19) none 5 0 (some 2)) <|
 .c 20 (.call fn_impl_Accepts [.v 18,.v 19]) K4_3) K4_2
@[simp] def W4_4 := C.w K4_4.eq_1
def K4_5:Pl:=.m 21 20 <|
 .x 22 (.extract 0 (.v 21)) <|
 .x 23 (.extract 1 (.v 21)) <|
 .m 14 22 <|
 .m 15 23 .done
@[simp] def W4_5 := Pl.w K4_5.eq_1
def K4_6:C:=.seq (.pl <| .e 18 6 <|
 .o (.pget (some 18) none 8 0 (some 3)) <|
 .o (.pget (some 19) none 5 0 (some 2)) <|
 .c 20 (.call fn_impl_Accepts [.v 18,.v 19]) K4_5) K4_4
@[simp] def W4_6 := C.w K4_6.eq_1
def K4_7:Pl:=.m 20 19 <|
 .x 21 (.extract 0 (.v 20)) <|
 .x 22 (.extract 1 (.v 20)) <|
 .o (.pnew 12 (.c (.agg #[.slice none 0 0,.slice none 0 0,.slice none 0 0])) []) <|
 .o (.pset none 12 0 3 (.v 21)) <|
 .m 13 22 .done
@[simp] def W4_7 := Pl.w K4_7.eq_1
def K4_8:C:=.seq (.pl <| .e 18 5 <|
 .o (.pget (some 18) none 6 0 (some 3)) <|
 .c 19 (.call fn_impl_TranslateFormula [.v 18]) K4_7) K4_6
@[simp] def W4_8 := C.w K4_8.eq_1
def K4_9:Pl:=.x 25 (.pick (.v 21) (.v 24) (.c (.bool false))) <|
 .m 2 25 .done
@[simp] def W4_9 := Pl.w K4_9.eq_1
def K4_10:C:=.seq (.pl <| .e 18 8 <|
 .m 18 9 <|
 .m 19 11 <|
 .x 20 (.eqb false (.v 18) (.v 19)) <|
 .m 21 20 <|
 .y 21 (.pget (some 22) none 8 0 (some 3)) <|
 .y 21 (.pget (some 23) none 10 0 (some 3)) <|
 .st (.act (some (.v 21,true)) (.ex (some 24) (.call fn_impl_AutomatonSame [.v 22,.v 23]))) K4_9) (.ret)
@[simp] def W4_10 := C.w K4_10.eq_1
def K4_11:C:=.cond 18 (.v 34) K4_10 (.skip)
@[simp] def W4_11 := C.w K4_11.eq_1
def K4_12:Pl:=.n 21 (.px (some 25) (.un .not (.v 24))) <|
 .x 26 (.pick (.v 21) (.c (.bool true)) (.v 25)) <|
 .m 27 26 <|
 .n 27 (.px (some 28) (.mv (.v 7))) <|
 .n 27 (.px (some 29) (.un .not (.v 28))) <|
 .x 30 (.pick (.v 27) (.c (.bool true)) (.v 29)) <|
 .m 31 30 <|
 .n 31 (.px (some 32) (.mv (.v 9))) <|
 .n 31 (.px (some 33) (.un .not (.v 32))) <|
 .x 34 (.pick (.v 31) (.c (.bool true)) (.v 33)) .done
@[simp] def W4_12 := Pl.w K4_12.eq_1
def K4_13:C:=.seq (.seq (.pl <| .e 18 17 <|
 .m 18 9 <|
 .m 19 11 <|
 .x 20 (.eqb true (.v 18) (.v 19)) <|
 .m 21 20 <|
 .n 21 (.pget (some 22) none 8 0 (some 3)) <|
 .n 21 (.pget (some 23) none 10 0 (some 3)) <|
 .st (.act (some (.v 21,false)) (.ex (some 24) (.call fn_impl_AutomatonSame [.v 22,.v 23]))) K4_12) K4_11) K4_8
@[simp] def W4_13 := C.w K4_13.eq_1
def K4_14:Pl:=.m 20 19 <|
 .x 21 (.extract 0 (.v 20)) <|
 .x 22 (.extract 1 (.v 20)) <|
 .o (.pnew 10 (.c (.agg #[.slice none 0 0,.slice none 0 0,.slice none 0 0])) []) <|
 .o (.pset none 10 0 3 (.v 21)) <|
 .m 11 22 .done
@[simp] def W4_14 := Pl.w K4_14.eq_1
def K4_15:C:=.seq (.pl <| .e 18 5 <|
 .o (.pget (some 18) none 3 0 (some 3)) <|
 .c 19 (.call fn_spec_TranslateFormula [.v 18]) K4_14) K4_13
@[simp] def W4_15 := C.w K4_15.eq_1
def K4_16:Pl:=.m 20 19 <|
 .x 21 (.extract 0 (.v 20)) <|
 .x 22 (.extract 1 (.v 20)) <|
 .o (.pnew 8 (.c (.agg #[.slice none 0 0,.slice none 0 0,.slice none 0 0])) []) <|
 .o (.pset none 8 0 3 (.v 21)) <|
 .m 9 22 .done
@[simp] def W4_16 := Pl.w K4_16.eq_1
def K4_17:C:=.seq (.pl <| .e 18 5 <|
 .o (.pget (some 18) none 3 0 (some 3)) <|
 .c 19 (.call fn_impl_TranslateFormula [.v 18]) K4_16) K4_15
@[simp] def W4_17 := C.w K4_17.eq_1
def K4_18:Pl:=.m 20 19 <|
 .x 21 (.extract 0 (.v 20)) <|
 .x 22 (.extract 1 (.v 20)) <|
 .o (.pnew 6 (.c (.agg #[.int .i64 0,.int .i64 0,.slice none 0 0])) []) <|
 .o (.pset none 6 0 3 (.v 21)) <|
 .m 7 22 .done
@[simp] def W4_18 := Pl.w K4_18.eq_1
def K4_19:C:=.seq (.pl <| .e 18 5 <|
 .o (.pget (some 18) none 3 0 (some 3)) <|
 .c 19 (.call fn_impl_NormalForm [.v 18]) K4_18) K4_17
@[simp] def W4_19 := C.w K4_19.eq_1
def K4_20:Pl:=.m 20 19 <|
 .x 21 (.extract 0 (.v 20)) <|
 .x 22 (.extract 1 (.v 20)) <|
 .o (.pnew 4 (.c (.agg #[.slice none 0 0,.slice none 0 0,.slice none 0 0])) []) <|
 .o (.pnew 5 (.c (.agg #[.slice none 0 0,.slice none 0 0])) []) <|
 .o (.pset none 4 0 3 (.v 21)) <|
 .o (.pset none 5 0 2 (.v 22)) .done
@[simp] def W4_20 := Pl.w K4_20.eq_1
def K4_21:C:=.seq (.pl <| .e 18 5 <|
 .m 18 1 <|
 .c 19 (.call fn_spec_DrawAccepts [.v 18]) K4_20) K4_19
@[simp] def W4_21 := C.w K4_21.eq_1
def K4_22:Pl:=.o (.pnew 3 (.c (.agg #[.int .i64 0,.int .i64 0,.slice none 0 0])) []) <|
 .o (.pset none 3 0 3 (.v 19)) .done
@[simp] def W4_22 := Pl.w K4_22.eq_1
def K4_23:C:=.seq (.pl <| .e 18 2 <|
 .m 18 0 <|
 .c 19 (.call fn_spec_DrawTranslateFormula [.v 18]) K4_22) K4_21
@[simp] def W4_23 := C.w K4_23.eq_1
def K4_24:C:=.seq (.pl <| .e 18 0 <|
 .x 2 (.mv (.c (.bool true))) .done) (.ret)
@[simp] def W4_24 := C.w K4_24.eq_1
def K4_25:C:=.cond 18 (.v 25) K4_24 (.skip)
@[simp] def W4_25 := C.w K4_25.eq_1
def K4_26:C:=.seq (.seq (.pl <| .e 18 8 <|
 .m 18 0 <|
 .x 19 (.lenV (.v 18)) <|
 .x 20 (.bin .gtr (.v 19) (.c (.int .i64 1048576))) <|
 .m 21 20 <|
 .n 21 (.px (some 22) (.mv (.v 1))) <|
 .n 21 (.px (some 23) (.lenV (.v 22))) <|
 .n 21 (.px (some 24) (.bin .gtr (.v 23) (.c (.int .i64 1048576)))) <|
 .x 25 (.pick (.v 21) (.c (.bool true)) (.v 24)) .done) K4_25) K4_23
@[simp] def W4_26 := C.w K4_26.eq_1
def B_laws_FnTranslateEquivalent:C:=.seq (.pl <| .e 18 0 <|
 .x 2 (.mv (.c (.bool false))) .done) K4_26
@[simp] def WB_laws_FnTranslateEquivalent := C.w B_laws_FnTranslateEquivalent.eq_1
def R_laws_FnTranslateEquivalent:FIR:=⟨B_laws_FnTranslateEquivalent,18,[(2,none)]⟩
theorem IR_laws_FnTranslateEquivalent:cfun Tryz.prog H_laws_FnTranslateEquivalent Tryz.f4=some R_laws_FnTranslateEquivalent:=by kernel_rfl
theorem EN_laws_FnTranslateEquivalent:ENT Tryz.prog B_laws_FnTranslateEquivalent [(2,none)] 2 18 fn_laws_FnTranslateEquivalent:=fun hargs hw=>enter Tryz.func4 rfl IR_laws_FnTranslateEquivalent hargs hw
end Go.Proofs.YtbanccfdojgocaaGreat

namespace Go.Proofs.YtbanccfdojgocaaGreat
open Go
end Go.Proofs.YtbanccfdojgocaaGreat

namespace Go.Proofs.YtbanccfdojgocaaGreat
open Go
end Go.Proofs.YtbanccfdojgocaaGreat

namespace Go.Proofs.YtbanccfdojgocaaGreat
open Go
namespace Fm
theorem push_nf:∀(x:Exq) {n m:Nat},Nf n x→Shp m x→push x false=x:=by
 refine Exq.ind fun x ih n m hn hs=>?_
 cases n with
 | zero=>exact hn.elim
 | succ n=>
 cases m with
 | zero=>exact hs.elim
 | succ m=>
 obtain⟨h8,h3,hk⟩:=hn
 have hkd:=hs.nd.kind
 have hz:=hs.nd.ze
 have kid:∀j (hj:j<x.kids.length),kp x false j=x.kids[j]:=fun j hj=>by
  rw[kp_at hj]; exact ih _ (List.getElem_mem hj) (hk _ (List.getElem_mem hj)) (hs.kid hj)
 have eta:∀{k:Int}{l:List Exq},k=x.kind→x.val=0→l=x.kids→Exq.mk k 0 l=x:=fun {k l} h1 h2 h3=>by
  rw[Exq.ext_iff']; exact⟨h1,h2.symm,h3⟩
 have one:∀{y:Exq},x.kids.length=1→(∀h:0<x.kids.length,y=x.kids[0])→[y]=x.kids:=by
  intro y h1 h2
  apply List.ext_getElem (by simp[h1])
  intro i hi hj
  obtain rfl:i=0:=by omega
  exact h2 hj
 have two:∀{y z:Exq},x.kids.length=2→(∀h:0<x.kids.length,y=x.kids[0])→(∀h:1<x.kids.length,z=x.kids[1])→[y,z]=x.kids:=by
  intro y z h1 h2 h3
  apply List.ext_getElem (by simp[h1])
  intro i hi hj
  rcases (by omega:i=0∨i=1) with rfl | rfl
  ·exact h2 hj
  ·exact h3 hj
 rw[push_eq]
 split
 ·rename_i c
  simp only[Bool.false_eq_true,if_false]
  rw[Exq.ext_iff']
  exact⟨rfl,rfl,(hs.none c).symm⟩
 split
 ·rename_i c
  have h1:=hs.one (.inl c)
  have hl:0<x.kids.length:=by omega
  rw[kp_at hl]
  have ha:=h3 c _ (List.getElem_mem hl)
  rw[push_eq,if_pos ha]
  simp only[Bool.not_false,if_true]
  refine eta c.symm (hz (by omega)) (one h1 fun h=>?_)
  rw[Exq.ext_iff']
  exact⟨rfl,rfl,((hs.kid hl).none ha).symm⟩
 split
 ·rename_i c
  have h1:=hs.one (.inr (.inl c))
  exact eta c.symm (hz (by omega)) (one h1 fun h=>kid 0 h)
 split
 ·omega
 ·have c:x.kind=4∨x.kind=5∨x.kind=7∨x.kind=8:=by omega
  have h2:=hs.two c
  simp only[Bool.false_eq_true,if_false]
  exact eta rfl (hz (by omega)) (two h2 (fun h=>kid 0 h) (fun h=>kid 1 h))
theorem push_push {x:Exq}(h:Ok x) (h2:Ok (push x false)):push (push x false) false=push x false:=
 push_nf _ (nf_push x h.1 false) h2.1
theorem basics_push {x:Exq}(h:Ok x) (h2:Ok (push x false)):basics (push x false)=basics x:=by
 unfold basics
 rw[push_push h h2]
theorem trR_push {x:Exq}(h:Ok x) (h2:Ok (push x false)):(trOk (push x false)↔trOk x)∧trA (push x false)=trA x:=by
 have hb:=basics_push h h2
 have hp:=push_push h h2
 have ht:trT (push x false)=trT x:=by unfold trT; rw[hb,hp]
 refine⟨?_,by unfold trA; rw[hb,hp,ht]⟩
 unfold trOk bOk
 rw[ht,hb,hp]
 exact⟨fun hh=>⟨⟨⟨h,h2⟩,hh.1.2⟩,hh.2⟩,fun hh=>⟨⟨⟨h2,h2⟩,hh.1.2⟩,hh.2⟩⟩
end Fm
end Go.Proofs.YtbanccfdojgocaaGreat

namespace Go.Proofs.YtbanccfdojgocaaGreat
open Go
theorem Rep.tail {α:Type} [Ty α] {h:Heap}{v:Value}{l:List α}(R:Rep h v l) {n esz:Nat}{k:IntKind}(hn:n≤l.length) (he:esz=Ty.sz α):∃v',sliceVV esz v (some (some (.int k n))) none none=some v'∧Rep h v' (l.drop n):=by
 subst he
 obtain⟨p,cap,rfl,h1,h2,h3⟩:=Rep_list.1 R
 have hl:(l.drop n).length=l.length-n:=by simp
 have hv:sliceVV (Ty.sz α) (.slice p l.length cap) (some (some (.int k n))) none none=some (Value.slice (if cap=n then p else p.map fun a=>a.add (n*Ty.sz α)) (l.length-n) (cap-n)):=by
  simp[sliceVV,bndV,hn]
 refine⟨_,hv,?_⟩
 by_cases e:n=l.length
 ·have hd:l.drop n=[]:=by rw[e]; simp
  rw[hd,show l.length-n=0 by omega]
  exact Rep_list.2 ⟨_,cap-n,rfl,by simp,trivial,fun i hi=>by simp at hi⟩
 ·obtain⟨b,off,vs,rfl,_⟩:=h3 0 (by omega)
  rw[if_neg (by omega)]
  refine Rep_list.2 ⟨_,cap-n,by rw[hl],by rw[hl]; omega,trivial,fun i hi=>?_⟩
  rw[hl] at hi
  obtain⟨b',off',vs,e1,e2,e3⟩:=h3 (n+i) (by omega)
  simp only[Option.some.injEq,Addr.mk.injEq] at e1
  obtain⟨rfl,rfl,_⟩:=e1
  refine⟨b,off+n*Ty.sz α,vs,by simp[Addr.add],?_,by simpa using e3⟩
  rw[Nat.add_mul,← Nat.add_assoc] at e2
  exact e2
end Go.Proofs.YtbanccfdojgocaaGreat

namespace Go.Proofs.YtbanccfdojgocaaGreat
open Go
theorem c_FnTranslateEquivalent {h:Heap}{v w:Value}{l m:List (BitVec 8)}(R:Rep h v l) (RM0:Rep h w m):CallE Tryz.prog fn_laws_FnTranslateEquivalent [v,w] h (fun u h'=>h.le h'∧u=.bool true):=by
 refine CallE.gen fun k hk=>EN_laws_FnTranslateEquivalent rfl ?_
 by_cases a1:(1048576:Int)<l.length
 ·simp -implicitDefEqProofs (disch:=first|omega|(simp only[LnZ];omega))[wrap64,R.len,a1]
  exact RetK.keep (hk _ _ ⟨Heap.le.refl _,rfl⟩)
 by_cases a2:(1048576:Int)<m.length
 ·simp -implicitDefEqProofs (disch:=first|omega|(simp only[LnZ];omega))[wrap64,R.len,RM0.len,a1,a2]
  exact RetK.keep (hk _ _ ⟨Heap.le.refl _,rfl⟩)
 simp -implicitDefEqProofs (disch:=first|omega|(simp only[LnZ];omega))[wrap64,R.len,RM0.len,a1,a2]
 refine (c_DrawTranslateFormula R).go ?_
 rintro vf h1 ⟨x,l1,Rx⟩
 have FX:=Rx.aExq
 simp -implicitDefEqProofs (disch:=first|omega|(simp only[LnZ];omega))[wrap64,FX,setC]
 refine (c_DrawAccepts (RM0.le l1)).go ?_
 rintro _ h2 ⟨u1,u2,a',y,rfl,l2,Ra',Ry,_⟩
 have Rx:=Rx.le l2
 have FY:=Ry.aLas
 have FA':=Ra'.aAut
 simp -implicitDefEqProofs (disch:=first|omega|(simp only[LnZ];omega))[wrap64,FX,FY,FA',setC]
 refine (c_NormalForm Rx).go ?_
 rintro _ h2b ⟨g,rfl,l2b,Rg⟩
 have Rx:=Rx.le l2b
 have Ry:=Ry.le l2b
 have FG:=Rg.aExq
 simp -implicitDefEqProofs (disch:=first|omega|(simp only[LnZ];omega))[wrap64,FX,FG,setC]
 refine (c_TranslateFormula Rx).go ?_
 rintro _ h3 ⟨w1,rfl,H⟩
 have FW:=H.rep.aAut
 simp -implicitDefEqProofs (disch:=first|omega|(simp only[LnZ];omega))[wrap64,FX,FW,setC]
 refine (c_spec_TranslateFormula (Rx.on H)).go ?_
 rintro _ h4 ⟨w2,rfl,H2⟩
 have H:=H2.app H
 have FV:=H.rep.aAut
 have RV:=H.rep
 have RW:=H.sw1.rep
 have lb:=((l1.trans l2).trans l2b).trans H.base
 have Rg:=Rg.on H
 have Ry:=Ry.on H
 clear H H2
 by_cases ha:Fm.trOk x
 case neg=>
  simp -implicitDefEqProofs (disch:=first|omega|(simp only[LnZ];omega))[wrap64,ha,FW,FV,setC]
  refine (c_AutomatonSame RW RV).go ?_
  rintro _ _ ⟨rfl,rfl⟩
  by_cases q1:Fm.Ok x <;> by_cases q2:Fm.Ok (Fm.push x false)
  all_goals
   simp -implicitDefEqProofs (disch:=first|omega|(simp only[LnZ];omega))[wrap64,q1,q2,FW,FV]
   refine (c_AutomatonSame RW RV).go ?_
   rintro _ _ ⟨rfl,rfl⟩
   simp -implicitDefEqProofs (disch:=first|omega|(simp only[LnZ];omega))[wrap64]
   exact RetK.keep (hk _ _ ⟨lb,rfl⟩)
 have q:=ha.1.1
 have hb:=Fm.trA_ok ha
 obtain⟨e1,e2⟩:=Fm.trR_push q.1 q.2
 have hp:=e1.2 ha
 rw[Fm.trR,if_pos ha] at RV RW
 rw[Fm.nfR,if_pos q] at Rg
 simp -implicitDefEqProofs (disch:=first|omega|(simp only[LnZ];omega))[wrap64,ha,q.1,q.2,FW,FV,setC]
 refine (c_AutomatonSame RW RV).go ?_
 rintro _ _ ⟨rfl,rfl⟩
 simp -implicitDefEqProofs (disch:=first|omega|(simp only[LnZ];omega))[wrap64,FG]
 refine (c_TranslateFormula Rg).go ?_
 rintro _ h5 ⟨w3,rfl,H⟩
 rw[Fm.trR,if_pos hp,e2] at H
 have FB:=H.rep.aAut
 have RB:=H.rep
 have RW:=RW.on H
 have Ry:=Ry.on H
 simp -implicitDefEqProofs (disch:=first|omega|(simp only[LnZ];omega))[wrap64,hp,FW,FB,FY,setC]
 refine (c_Accepts RW Ry).go ?_
 rintro _ h6 ⟨l6,rfl⟩
 simp -implicitDefEqProofs (disch:=first|omega|(simp only[LnZ];omega))[wrap64,FB,FY]
 refine (c_Accepts (RB.le l6) (Ry.le l6)).go ?_
 rintro _ h7 ⟨l7,rfl⟩
 have l67:=l6.trans l7
 simp -implicitDefEqProofs (disch:=first|omega|(simp only[LnZ];omega))[wrap64,hp,FW,FB]
 refine (c_AutomatonSame (RW.le l67) (RB.le l67)).go ?_
 rintro _ _ ⟨rfl,rfl⟩
 simp -implicitDefEqProofs (disch:=first|omega|(simp only[LnZ];omega))[wrap64]
 exact RetK.keep (hk _ _ ⟨lb.trans (H.base.trans l67),rfl⟩)
end Go.Proofs.YtbanccfdojgocaaGreat
