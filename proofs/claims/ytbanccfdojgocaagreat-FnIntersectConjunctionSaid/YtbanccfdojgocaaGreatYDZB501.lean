/-
  Texts of this proof, one behind the other.
-/
import Derived.Orders
import Derived.Laws.Sem
import Derived.Laws.StructEq
import Derived.Laws.Entries
import Derived.Laws.Cells
import Derived.Laws.CopyRow
import Derived.Laws.Append
import Derived.Laws.Tables
import Derived.Test.YtbanccfdojgocaaGreatYF7
set_option linter.all false
set_option linter.unusedVariables false
set_option linter.unusedSimpArgs false
set_option linter.defProp false
set_option maxRecDepth 1000000
namespace Go.Proofs.YtbanccfdojgocaaGreat
open Go
universe u
def inR (i:Int) (n:Nat):Bool:=decide (0≤i)&&decide (i<n)
section
variable {P:Program}{lay:Lay}{e:Env}{ρ:Operand→Value}
end
section
variable {P:Program}{lay:Lay}{e:Env}{ρ:Operand→Value}
end
namespace Frm
end Frm
section
variable {P:Program}
end
section
variable {P:Program}
variable {lay:Lay}{e:Env}{ρ:Operand→Value}{h:Heap}{w:World}
end
section
variable {P:Program}{lay:Lay}{e:Env}{ρ:Operand→Value}{h:Heap}{w:World}
end
namespace FrB
end FrB
section
variable {P:Program}{base:Nat}{lay:Lay}{L:Nat→Prop}{e:Env}{h:Heap}{w:World}{a:Act}
end
end Go.Proofs.YtbanccfdojgocaaGreat

namespace Go.Proofs.YtbanccfdojgocaaGreat
open Go
def H_laws_FnIntersectConjunction:Hint:=⟨[(0,false),(1,false),(4,false),(5,true),(6,true),(7,true),(8,true),(9,true),(10,false),(11,true),(12,false),(13,true),(14,false),(15,true),(16,false),(17,true),(18,false),(19,false),(20,false),(21,false),(22,false)],[]⟩
def K7_1:C:=.seq (.pl <| .e 21 8 <|
 .m 21 18 <|
 .m 22 20 <|
 .x 23 (.eqb false (.v 21) (.v 22)) <|
 .m 24 23 <|
 .y 24 (.px (some 25) (.mv (.v 17))) <|
 .y 24 (.px (some 26) (.mv (.v 19))) <|
 .y 24 (.px (some 27) (.eqb false (.v 25) (.v 26))) <|
 .x 28 (.pick (.v 24) (.v 27) (.c (.bool false))) <|
 .m 2 28 .done) (.ret)
@[simp] def W7_1 := C.w K7_1.eq_1
def K7_2:Pl:=.m 24 23 <|
 .x 25 (.extract 0 (.v 24)) <|
 .x 26 (.extract 1 (.v 24)) <|
 .m 19 25 <|
 .m 20 26 .done
@[simp] def W7_2 := Pl.w K7_2.eq_1
def K7_3:C:=.seq (.pl <| .e 21 6 <|
 .o (.pget (some 21) none 15 0 (some 3)) <|
 .o (.pget (some 22) none 6 0 (some 2)) <|
 .c 23 (.call fn_impl_Accepts [.v 21,.v 22]) K7_2) K7_1
@[simp] def W7_3 := C.w K7_3.eq_1
def K7_4:Pl:=.m 24 23 <|
 .x 25 (.extract 0 (.v 24)) <|
 .x 26 (.extract 1 (.v 24)) <|
 .m 17 25 <|
 .m 18 26 .done
@[simp] def W7_4 := Pl.w K7_4.eq_1
def K7_5:C:=.seq (.pl <| .e 21 6 <|
 .o (.pget (some 21) none 13 0 (some 3)) <|
 .o (.pget (some 22) none 6 0 (some 2)) <|
 .c 23 (.call fn_impl_Accepts [.v 21,.v 22]) K7_4) K7_3
@[simp] def W7_5 := C.w K7_5.eq_1
def K7_6:C:=.seq (.pl <| .e 21 0 <|
 .x 2 (.mv (.c (.bool true))) .done) (.ret)
@[simp] def W7_6 := C.w K7_6.eq_1
def K7_7:C:=.cond 21 (.v 26) K7_6 (.skip)
@[simp] def W7_7 := C.w K7_7.eq_1
def K7_8:C:=.seq (.seq (.pl <| .e 21 6 <|
 .m 21 14 <|
 .x 22 (.un .not (.v 21)) <|
 .m 23 22 <|
 .n 23 (.px (some 24) (.mv (.v 16))) <|
 .n 23 (.px (some 25) (.un .not (.v 24))) <|
 .x 26 (.pick (.v 23) (.c (.bool true)) (.v 25)) .done) K7_7) K7_5
@[simp] def W7_8 := C.w K7_8.eq_1
def K7_9:Pl:=.m 24 23 <|
 .x 25 (.extract 0 (.v 24)) <|
 .x 26 (.extract 1 (.v 24)) <|
 .o (.pnew 15 (.c (.agg #[.slice none 0 0,.slice none 0 0,.slice none 0 0])) []) <|
 .o (.pset none 15 0 3 (.v 25)) <|
 .m 16 26 .done
@[simp] def W7_9 := Pl.w K7_9.eq_1
def K7_10:C:=.seq (.pl <| .e 21 6 <|
 .o (.pget (some 21) none 7 0 (some 3)) <|
 .o (.pget (some 22) none 11 0 (some 3)) <|
 .c 23 (.call fn_impl_IntersectAutomata [.v 21,.v 22]) K7_9) K7_8
@[simp] def W7_10 := C.w K7_10.eq_1
def K7_11:Pl:=.m 26 25 <|
 .x 27 (.extract 0 (.v 26)) <|
 .x 28 (.extract 1 (.v 26)) <|
 .o (.pnew 13 (.c (.agg #[.slice none 0 0,.slice none 0 0,.slice none 0 0])) []) <|
 .o (.pset none 13 0 3 (.v 27)) <|
 .m 14 28 .done
@[simp] def W7_11 := Pl.w K7_11.eq_1
def K7_12:Pl:=.x 24 (.build [.int .i64 0,.int .i64 0,.slice none 0 0] [(0,1,.c (.int .i64 4)),(2,1,.v 23)]) <|
 .c 25 (.call fn_impl_TranslateFormula [.v 24]) K7_11
@[simp] def W7_12 := Pl.w K7_12.eq_1
def K7_13:C:=.seq (.pl <| .e 21 8 <|
 .o (.pget (some 21) none 3 0 (some 3)) <|
 .o (.pget (some 22) none 4 0 (some 3)) <|
 .c 23 (.bls 3 2 [.int .i64 0,.int .i64 0,.slice none 0 0] [(0,3,.v 21),(3,3,.v 22)]) K7_12) K7_10
@[simp] def W7_13 := C.w K7_13.eq_1
def K7_14:Pl:=.x 28 (.pick (.v 24) (.v 27) (.c (.bool false))) <|
 .m 2 28 .done
@[simp] def W7_14 := Pl.w K7_14.eq_1
def K7_15:C:=.seq (.pl <| .e 21 8 <|
 .m 21 8 <|
 .m 22 10 <|
 .x 23 (.eqb false (.v 21) (.v 22)) <|
 .m 24 23 <|
 .y 24 (.pget (some 25) none 7 0 (some 3)) <|
 .y 24 (.pget (some 26) none 9 0 (some 3)) <|
 .st (.act (some (.v 24,true)) (.ex (some 27) (.call fn_impl_AutomatonSame [.v 25,.v 26]))) K7_14) (.ret)
@[simp] def W7_15 := C.w K7_15.eq_1
def K7_16:C:=.cond 21 (.v 37) K7_15 (.skip)
@[simp] def W7_16 := C.w K7_16.eq_1
def K7_17:Pl:=.n 24 (.px (some 28) (.un .not (.v 27))) <|
 .x 29 (.pick (.v 24) (.c (.bool true)) (.v 28)) <|
 .m 30 29 <|
 .n 30 (.px (some 31) (.mv (.v 8))) <|
 .n 30 (.px (some 32) (.un .not (.v 31))) <|
 .x 33 (.pick (.v 30) (.c (.bool true)) (.v 32)) <|
 .m 34 33 <|
 .n 34 (.px (some 35) (.mv (.v 12))) <|
 .n 34 (.px (some 36) (.un .not (.v 35))) <|
 .x 37 (.pick (.v 34) (.c (.bool true)) (.v 36)) .done
@[simp] def W7_17 := Pl.w K7_17.eq_1
def K7_18:C:=.seq (.seq (.pl <| .e 21 17 <|
 .m 21 8 <|
 .m 22 10 <|
 .x 23 (.eqb true (.v 21) (.v 22)) <|
 .m 24 23 <|
 .n 24 (.pget (some 25) none 7 0 (some 3)) <|
 .n 24 (.pget (some 26) none 9 0 (some 3)) <|
 .st (.act (some (.v 24,false)) (.ex (some 27) (.call fn_impl_AutomatonSame [.v 25,.v 26]))) K7_17) K7_16) K7_13
@[simp] def W7_18 := C.w K7_18.eq_1
def K7_19:Pl:=.m 23 22 <|
 .x 24 (.extract 0 (.v 23)) <|
 .x 25 (.extract 1 (.v 23)) <|
 .o (.pnew 11 (.c (.agg #[.slice none 0 0,.slice none 0 0,.slice none 0 0])) []) <|
 .o (.pset none 11 0 3 (.v 24)) <|
 .m 12 25 .done
@[simp] def W7_19 := Pl.w K7_19.eq_1
def K7_20:C:=.seq (.pl <| .e 21 5 <|
 .o (.pget (some 21) none 4 0 (some 3)) <|
 .c 22 (.call fn_impl_TranslateFormula [.v 21]) K7_19) K7_18
@[simp] def W7_20 := C.w K7_20.eq_1
def K7_21:Pl:=.m 23 22 <|
 .x 24 (.extract 0 (.v 23)) <|
 .x 25 (.extract 1 (.v 23)) <|
 .o (.pnew 9 (.c (.agg #[.slice none 0 0,.slice none 0 0,.slice none 0 0])) []) <|
 .o (.pset none 9 0 3 (.v 24)) <|
 .m 10 25 .done
@[simp] def W7_21 := Pl.w K7_21.eq_1
def K7_22:C:=.seq (.pl <| .e 21 5 <|
 .o (.pget (some 21) none 3 0 (some 3)) <|
 .c 22 (.call fn_spec_TranslateFormula [.v 21]) K7_21) K7_20
@[simp] def W7_22 := C.w K7_22.eq_1
def K7_23:Pl:=.m 23 22 <|
 .x 24 (.extract 0 (.v 23)) <|
 .x 25 (.extract 1 (.v 23)) <|
 .o (.pnew 7 (.c (.agg #[.slice none 0 0,.slice none 0 0,.slice none 0 0])) []) <|
 .o (.pset none 7 0 3 (.v 24)) <|
 .m 8 25 .done
@[simp] def W7_23 := Pl.w K7_23.eq_1
def K7_24:C:=.seq (.pl <| .e 21 5 <|
 .o (.pget (some 21) none 3 0 (some 3)) <|
 .c 22 (.call fn_impl_TranslateFormula [.v 21]) K7_23) K7_22
@[simp] def W7_24 := C.w K7_24.eq_1
def K7_25:Pl:=.m 27 26 <|
 .x 28 (.extract 0 (.v 27)) <|
 .x 29 (.extract 1 (.v 27)) <|
 .o (.pnew 5 (.c (.agg #[.slice none 0 0,.slice none 0 0,.slice none 0 0])) []) <|
 .o (.pnew 6 (.c (.agg #[.slice none 0 0,.slice none 0 0])) []) <|
 .o (.pset none 5 0 3 (.v 28)) <|
 .o (.pset none 6 0 2 (.v 29)) .done
@[simp] def W7_25 := Pl.w K7_25.eq_1
def K7_26:Pl:=.c 26 (.call fn_spec_DrawAccepts [.v 25]) K7_25
@[simp] def W7_26 := Pl.w K7_26.eq_1
def K7_27:Pl:=.m 24 0 <|
 .c 25 (.app 1 1 [.int .u8 0] (.o (.v 23)) (.o (.v 24))) K7_26
@[simp] def W7_27 := Pl.w K7_27.eq_1
def K7_28:C:=.seq (.pl <| .e 21 9 <|
 .o (.psl 21 [] []) <|
 .m 22 1 <|
 .c 23 (.app 1 1 [.int .u8 0] (.p 0 21) (.o (.v 22))) K7_27) K7_24
@[simp] def W7_28 := C.w K7_28.eq_1
def K7_29:Pl:=.o (.pnew 4 (.c (.agg #[.int .i64 0,.int .i64 0,.slice none 0 0])) []) <|
 .o (.pset none 4 0 3 (.v 22)) .done
@[simp] def W7_29 := Pl.w K7_29.eq_1
def K7_30:C:=.seq (.pl <| .e 21 2 <|
 .m 21 1 <|
 .c 22 (.call fn_spec_DrawTranslateFormula [.v 21]) K7_29) K7_28
@[simp] def W7_30 := C.w K7_30.eq_1
def K7_31:Pl:=.o (.pnew 3 (.c (.agg #[.int .i64 0,.int .i64 0,.slice none 0 0])) []) <|
 .o (.pset none 3 0 3 (.v 22)) .done
@[simp] def W7_31 := Pl.w K7_31.eq_1
def K7_32:C:=.seq (.pl <| .e 21 2 <|
 .m 21 0 <|
 .c 22 (.call fn_spec_DrawTranslateFormula [.v 21]) K7_31) K7_30
@[simp] def W7_32 := C.w K7_32.eq_1
def K7_33:C:=.seq (.pl <| .e 21 0 <|
 .x 2 (.mv (.c (.bool true))) .done) (.ret)
@[simp] def W7_33 := C.w K7_33.eq_1
def K7_34:C:=.cond 21 (.v 28) K7_33 (.skip)
@[simp] def W7_34 := C.w K7_34.eq_1
def K7_35:C:=.seq (.seq (.pl <| .e 21 8 <|
 .m 21 0 <|
 .x 22 (.lenV (.v 21)) <|
 .x 23 (.bin .gtr (.v 22) (.c (.int .i64 1048576))) <|
 .m 24 23 <|
 .n 24 (.px (some 25) (.mv (.v 1))) <|
 .n 24 (.px (some 26) (.lenV (.v 25))) <|
 .n 24 (.px (some 27) (.bin .gtr (.v 26) (.c (.int .i64 1048576)))) <|
 .x 28 (.pick (.v 24) (.c (.bool true)) (.v 27)) .done) K7_34) K7_32
@[simp] def W7_35 := C.w K7_35.eq_1
def B_laws_FnIntersectConjunction:C:=.seq (.pl <| .e 21 0 <|
 .x 2 (.mv (.c (.bool false))) .done) K7_35
@[simp] def WB_laws_FnIntersectConjunction := C.w B_laws_FnIntersectConjunction.eq_1
def R_laws_FnIntersectConjunction:FIR:=⟨B_laws_FnIntersectConjunction,21,[(2,none)]⟩
theorem IR_laws_FnIntersectConjunction:cfun Tryz.prog H_laws_FnIntersectConjunction Tryz.f7=some R_laws_FnIntersectConjunction:=by kernel_rfl
theorem EN_laws_FnIntersectConjunction:ENT Tryz.prog B_laws_FnIntersectConjunction [(2,none)] 2 21 fn_laws_FnIntersectConjunction:=fun hargs hw=>enter Tryz.func7 rfl IR_laws_FnIntersectConjunction hargs hw
end Go.Proofs.YtbanccfdojgocaaGreat

namespace Go.Proofs.YtbanccfdojgocaaGreat
open Go
namespace Fm
section
variable (mv:List Int→List Mv) (ac:List Int→Bool) (L0:List (List Int))
end
section
variable {mv:List Int→List Mv}{ac:List Int→Bool}{L0:List (List Int)}
theorem exA_lang (hK:(exN mv ac L0 64).1.length≤64) {w:Nat→Int}:(exA mv ac L0).Lang w↔∃s:Nat→List Int,s 0∈L0∧(∀n,∃m∈mv (s n),m.to=s (n+1)∧(⟨0,m.care,m.value,0⟩:Tr).on (w n)=true)∧∀n,∃k,n≤k∧ac (s k)=true:=by
 have T:=exN_ef hK
 have hed:(exA mv ac L0).edges=(exN mv ac L0 64).2.2:=by unfold exA; simp only
 have hin:(exA mv ac L0).init=upto L0.length:=by unfold exA; simp only
 have hac:L0≠[]→(exA mv ac L0).acc=(exN mv ac L0 64).2.1:=fun h=>by unfold exA; simp only; rw[if_neg h]
 have hon:∀(i j c v L:Int),(⟨i,c,v,j⟩:Tr).on L=(⟨0,c,v,0⟩:Tr).on L:=fun _ _ _ _ _=>rfl
 constructor
 ·rintro⟨i0,hi0,hr⟩
  rw[hin,upto_mem] at hi0
  obtain⟨i,hi,hii⟩:=hi0
  obtain rfl:i0=i:=by omega
  have hne:L0≠[]:=by rintro rfl; simp at hi
  rw[hac hne,hed] at hr
  obtain⟨ρ,r1,r2,r3⟩:=Run.seq hr
  subst r1
  have h0:=T.pre (ρ 0) _ (List.getElem?_eq_getElem hi)
  have hst:∀n,∃s,(exN mv ac L0 64).1[ρ n]? = some s:=by
   intro n
   cases n with
   | zero=>exact⟨_,h0⟩
   | succ n=>
    obtain⟨e,he,e1,e2,e3⟩:=r2 n
    obtain⟨i,s,g1,m,g2,j,g3,g4⟩:=T.new e he
    subst g3
    have:ρ (n+1)=j:=by simp only at e2; omega
    rw[this]
    exact⟨_,g4⟩
  obtain⟨s,hs⟩:∃s:Nat→List Int,∀n,(exN mv ac L0 64).1[ρ n]? = some (s n):=⟨fun n=>Classical.choose (hst n),fun n=>Classical.choose_spec (hst n)⟩
  refine⟨s,?_,fun n=>?_,fun n=>?_⟩
  ·rw[hs 0] at h0
   rw[Option.some.inj h0]
   exact List.getElem_mem hi
  ·obtain⟨e,he,e1,e2,e3⟩:=r2 n
   obtain⟨i,s',g1,m,g2,j,g3,g4⟩:=T.new e he
   subst g3
   have f1:ρ n=i:=by simp only at e1; omega
   have f2:ρ (n+1)=j:=by simp only at e2; omega
   rw[← f1,hs] at g1
   rw[← f2,hs] at g4
   obtain rfl:=Option.some.inj g1
   rw[hon,Nat.zero_add] at e3
   exact⟨m,g2,(Option.some.inj g4).symm,e3⟩
  ·obtain⟨k,g1,g2⟩:=r3 n
   refine⟨k,g1,?_⟩
   unfold Go.Proofs.YtbanccfdojgocaaGreat.tru at g2
   rw[List.getD_eq_getElem?_getD,T.acc _ _ (hs k)] at g2
   exact g2
 ·rintro⟨s,h0,h1,h2⟩
  obtain⟨i0,hi0,he0⟩:=List.mem_iff_getElem.1 h0
  have hne:L0≠[]:=by rintro rfl; simp at hi0
  have hp0:=T.pre i0 _ (List.getElem?_eq_getElem hi0)
  rw[he0] at hp0
  have nxt:∀(n i:Nat),(exN mv ac L0 64).1[i]? = some (s n)→∃j:Nat,(exN mv ac L0 64).1[j]? = some (s (n+1))∧∃m:Mv,⟨(i:Int),m.care,m.value,(j:Int)⟩∈(exN mv ac L0 64).2.2∧(⟨0,m.care,m.value,0⟩:Tr).on (w n)=true:=by
   intro n i hi
   obtain⟨m,g1,g2,g3⟩:=h1 n
   obtain⟨j,g4,g5⟩:=T.all i _ hi m g1
   rw[g2] at g4
   exact⟨j,g4,m,g5,g3⟩
  have hex:∃ρ:Nat→Nat,ρ 0=i0∧∀n,(exN mv ac L0 64).1[ρ n]? = some (s n)∧∃m:Mv,⟨(ρ n:Int),m.care,m.value,(ρ (n+1):Int)⟩∈(exN mv ac L0 64).2.2∧(⟨0,m.care,m.value,0⟩:Tr).on (w n)=true:=by
   let S:=fun n=>{ i:Nat // (exN mv ac L0 64).1[i]? = some (s n) }
   let f:∀n,S n:=fun n=>Nat.rec (motive:=S) ⟨i0,hp0⟩ (fun n i=>⟨Classical.choose (nxt n i.1 i.2),(Classical.choose_spec (nxt n i.1 i.2)).1⟩) n
   exact⟨fun n=>(f n).1,rfl,fun n=>⟨(f n).2,(Classical.choose_spec (nxt n (f n).1 (f n).2)).2⟩⟩
  obtain⟨ρ,g1,g2⟩:=hex
  refine⟨i0,by rw[hin,upto_mem]; exact⟨i0,hi0,rfl⟩,?_⟩
  rw[hac hne,hed,← g1]
  refine Run.of_seq (fun n=>?_) fun n=>?_
  ·obtain⟨m,g3,g4⟩:=(g2 n).2
   exact⟨_,g3,rfl,rfl,by rw[hon]; exact g4⟩
  ·obtain⟨k,g3,g4⟩:=h2 n
   refine⟨k,g3,?_⟩
   unfold Go.Proofs.YtbanccfdojgocaaGreat.tru
   rw[List.getD_eq_getElem?_getD,T.acc _ _ (g2 k).1]
   exact g4
end
end Fm
end Go.Proofs.YtbanccfdojgocaaGreat

namespace Go.Proofs.YtbanccfdojgocaaGreat
open Go
namespace Fm
theorem fit_bits {c1 c2 v1 v2 L:Nat}(h1:v1 &&& c1=v1) (h2:v2 &&& c2=v2):(L &&& c1=v1∧L &&& c2=v2)↔((v1 ^^^ v2) &&& c1 &&& c2=0∧L &&& (c1 ||| c2)=v1 ||| v2):=by
 have bit:∀{a b:Nat},a=b→∀i,a.testBit i=b.testBit i:=fun h i=>by rw[h]
 constructor
 ·rintro⟨h3,h4⟩
  constructor
  ·refine Nat.eq_of_testBit_eq fun i=>?_
   have b3:=bit h3 i
   have b4:=bit h4 i
   simp only[Nat.testBit_and,Nat.testBit_or,Nat.testBit_xor,Nat.zero_testBit] at b3 b4 ⊢
   revert b3 b4
   cases L.testBit i <;> cases c1.testBit i <;> cases c2.testBit i <;> cases v1.testBit i <;> cases v2.testBit i <;> simp
  ·refine Nat.eq_of_testBit_eq fun i=>?_
   have b3:=bit h3 i
   have b4:=bit h4 i
   simp only[Nat.testBit_and,Nat.testBit_or] at b3 b4 ⊢
   revert b3 b4
   cases L.testBit i <;> cases c1.testBit i <;> cases c2.testBit i <;> cases v1.testBit i <;> cases v2.testBit i <;> simp
 ·rintro⟨h3,h4⟩
  constructor
  ·refine Nat.eq_of_testBit_eq fun i=>?_
   have b1:=bit h1 i
   have b2:=bit h2 i
   have b3:=bit h3 i
   have b4:=bit h4 i
   simp only[Nat.testBit_and,Nat.testBit_or,Nat.testBit_xor,Nat.zero_testBit] at b1 b2 b3 b4 ⊢
   revert b1 b2 b3 b4
   cases L.testBit i <;> cases c1.testBit i <;> cases c2.testBit i <;> cases v1.testBit i <;> cases v2.testBit i <;> simp
  ·refine Nat.eq_of_testBit_eq fun i=>?_
   have b1:=bit h1 i
   have b2:=bit h2 i
   have b3:=bit h3 i
   have b4:=bit h4 i
   simp only[Nat.testBit_and,Nat.testBit_or,Nat.testBit_xor,Nat.zero_testBit] at b1 b2 b3 b4 ⊢
   revert b1 b2 b3 b4
   cases L.testBit i <;> cases c1.testBit i <;> cases c2.testBit i <;> cases v1.testBit i <;> cases v2.testBit i <;> simp
theorem Tr.nats2 {n:Int}{t:Tr}(h:t.Ok n):∃c v:Nat,t.care=c∧t.value=v∧c<8∧v<8∧v &&& c=v:=by
 unfold Tr.Ok at h
 have hcl:t.care.toNat<8:=by omega
 obtain⟨c,hc⟩:∃c:Nat,t.care=c:=⟨t.care.toNat,by omega⟩
 have h7:=h.2.2.2.2.2.2.2
 obtain⟨v,hv⟩:∃v:Nat,t.value=v:=⟨t.value.toNat,by omega⟩
 have hb:t.value<9223372036854775808:=by
  rw[← h7]
  unfold andI
  generalize (BitVec.ofInt IntKind.i64.bits t.value &&& BitVec.ofInt IntKind.i64.bits t.care).toNat=m
  have:IntKind.i64.wrap (m:Int)=if (m:Int) % 18446744073709551616≥9223372036854775808 then (m:Int) % 18446744073709551616-18446744073709551616 else (m:Int) % 18446744073709551616:=by
   simp[IntKind.wrap,IntKind.signed,IntKind.bits]
  rw[this]
  split <;> omega
 rw[hv,hc,i64_and (by omega) (by omega)] at h7
 have h8:v &&& c=v:=by omega
 have h9:=Nat.and_le_right (n:=v) (m:=c)
 exact⟨c,v,hc,hv,by omega,by omega,h8⟩
theorem on_nat {i j:Int}{c v L:Nat}(hc:c<8) (hL:L<8):(⟨i,(c:Int),(v:Int),j⟩:Tr).on (L:Int)=true↔L &&& c=v:=by
 unfold Tr.on
 simp only
 rw[i64_and (by omega) (by omega),decide_eq_true_iff]
 omega
def pph (a b:Aut) (s:List Int):Int:=if s.getD 2 0=0 then (if Go.Proofs.YtbanccfdojgocaaGreat.tru a.acc (s.getD 0 0).toNat then 1 else 0) else (if Go.Proofs.YtbanccfdojgocaaGreat.tru b.acc (s.getD 1 0).toNat then 0 else 1)
def fits (e f:Tr):Bool:=decide ((e.value.toNat ^^^ f.value.toNat) &&& e.care.toNat &&& f.care.toNat=0)
def pmv (a b:Aut) (s:List Int) (e f:Tr):Mv:=⟨((e.care.toNat ||| f.care.toNat:Nat):Int),((e.value.toNat ||| f.value.toNat:Nat):Int),[e.to,f.to,pph a b s]⟩
def prM (a b:Aut) (s:List Int):List Mv:=a.edges.flatMap fun e=>(b.edges.filter fun f=>decide (e.frm=s.getD 0 0∧f.frm=s.getD 1 0)&&fits e f).map (pmv a b s e)
def prI (a b:Aut):List (List Int):=a.init.flatMap fun p=>b.init.map fun q=>[p,q,0]
def prC (b:Aut) (s:List Int):Bool:=decide (s.getD 2 0=1)&&b.acc.getD (s.getD 1 0).toNat false
theorem prM_mem {a b:Aut}{s:List Int}{m:Mv}:m∈prM a b s↔∃e∈a.edges,∃f∈b.edges,e.frm=s.getD 0 0∧f.frm=s.getD 1 0∧fits e f=true∧m=pmv a b s e f:=by
 unfold prM
 simp only[List.mem_flatMap,List.mem_map,List.mem_filter,Bool.and_eq_true,decide_eq_true_eq]
 constructor
 ·rintro⟨e,he,f,⟨hf,⟨h1,h2⟩,h3⟩,rfl⟩; exact⟨e,he,f,hf,h1,h2,h3,rfl⟩
 ·rintro⟨e,he,f,hf,h1,h2,h3,rfl⟩; exact⟨e,he,f,⟨hf,⟨h1,h2⟩,h3⟩,rfl⟩
theorem prI_mem {a b:Aut}{s:List Int}:s∈prI a b↔∃p∈a.init,∃q∈b.init,s=[p,q,0]:=by
 unfold prI
 simp only[List.mem_flatMap,List.mem_map]
 constructor
 ·rintro⟨p,hp,q,hq,rfl⟩; exact⟨p,hp,q,hq,rfl⟩
 ·rintro⟨p,hp,q,hq,rfl⟩; exact⟨p,hp,q,hq,rfl⟩
theorem pmv_on {a b:Aut}(ha:a.Ok) (hb:b.Ok) {s:List Int}{e f:Tr}(he:e∈a.edges) (hf:f∈b.edges) {L:Int}(h0:0≤L) (h7:L≤7):(e.on L=true∧f.on L=true)↔(fits e f=true∧(⟨0,(pmv a b s e f).care,(pmv a b s e f).value,0⟩:Tr).on L=true):=by
 obtain⟨l,rfl⟩:∃l:Nat,L=l:=⟨L.toNat,by omega⟩
 obtain⟨c1,v1,e1,e2,e3,e4,e5⟩:=Tr.nats2 (ha.2.2.2 e he)
 obtain⟨c2,v2,f1,f2,f3,f4,f5⟩:=Tr.nats2 (hb.2.2.2 f hf)
 have h1:e.on (l:Int)=true↔l &&& c1=v1:=by
  have:=on_nat (i:=e.frm) (j:=e.to) (c:=c1) (v:=v1) (L:=l) e3 (by omega)
  rw[← e1,← e2] at this
  exact this
 have h2:f.on (l:Int)=true↔l &&& c2=v2:=by
  have:=on_nat (i:=f.frm) (j:=f.to) (c:=c2) (v:=v2) (L:=l) f3 (by omega)
  rw[← f1,← f2] at this
  exact this
 unfold pmv fits
 simp only[e1,e2,f1,f2,Int.toNat_natCast,decide_eq_true_eq]
 rw[h1,h2,on_nat (or8 e3 f3) (by omega)]
 exact fit_bits e5 f5
theorem pr_ok {a b:Aut}(ha:a.Ok) (hb:b.Ok):∀s,∀m∈prM a b s,∃c v:Nat,m.care=c∧m.value=v∧c<8∧v &&& c=v:=by
 intro s m hm
 obtain⟨e,he,f,hf,_,_,_,rfl⟩:=prM_mem.1 hm
 obtain⟨c1,v1,e1,e2,e3,e4,e5⟩:=Tr.nats2 (ha.2.2.2 e he)
 obtain⟨c2,v2,f1,f2,f3,f4,f5⟩:=Tr.nats2 (hb.2.2.2 f hf)
 refine⟨c1 ||| c2,v1 ||| v2,by unfold pmv; simp only[e1,f1,Int.toNat_natCast],by unfold pmv; simp only[e2,f2,Int.toNat_natCast],or8 e3 f3,?_⟩
 refine Nat.eq_of_testBit_eq fun i=>?_
 have b1:(v1 &&& c1).testBit i=v1.testBit i:=by rw[e5]
 have b2:(v2 &&& c2).testBit i=v2.testBit i:=by rw[f5]
 simp only[Nat.testBit_and,Nat.testBit_or] at b1 b2 ⊢
 revert b1 b2
 cases c1.testBit i <;> cases c2.testBit i <;> cases v1.testBit i <;> cases v2.testBit i <;> simp
noncomputable def prA (a b:Aut):Aut:=exA (prM a b) (prC b) (prI a b)
theorem ph_next {H:Nat→Int}{X:Nat→Prop}{p q:Int}(hs:∀n,H n=p→(X n→H (n+1)=q)∧(¬X n→H (n+1)=p)) (hx:∀n,∃k,n≤k∧X k) (n:Nat) (h:H n=p):∃k,n≤k∧H k=p∧X k:=by
 obtain⟨m,h1,h2⟩:=hx n
 have key:∀d n,n+d=m→H n=p→∃k,n≤k∧H k=p∧X k:=by
  intro d
  induction d with
  | zero=>
   intro n hn hp
   obtain rfl:n=m:=by omega
   exact⟨n,Nat.le_refl _,hp,h2⟩
  | succ d ih=>
   intro n hn hp
   by_cases hX:X n
   ·exact⟨n,Nat.le_refl _,hp,hX⟩
   ·obtain⟨k,g1,g2⟩:=ih (n+1) (by omega) ((hs n hp).2 hX)
    exact⟨k,by omega,g2⟩
 exact key (m-n) n (by omega) h
theorem prA_lang {a b:Aut}(ha:a.Ok) (hb:b.Ok) (hK:(exN (prM a b) (prC b) (prI a b) 64).1.length≤64) {w:Nat→Int}(hw:∀t,0≤w t∧w t≤7):(prA a b).Lang w↔a.Lang w∧b.Lang w:=by
 unfold prA
 rw[exA_lang hK]
 constructor
 ·rintro⟨s,h0,h1,h2⟩
  obtain⟨p0,hp0,q0,hq0,hs0⟩:=prI_mem.1 h0
  have hst:∀n,∃(p q:Nat) (h:Int),s n=[(p:Int),(q:Int),h]:=by
   intro n
   cases n with
   | zero=>
    have g1:=incr_mem ha.i _ hp0
    have g2:=incr_mem hb.i _ hq0
    exact⟨p0.toNat,q0.toNat,0,by rw[hs0,Int.toNat_of_nonneg (by omega),Int.toNat_of_nonneg (by omega)]⟩
   | succ n=>
    obtain⟨m,g1,g2,_⟩:=h1 n
    obtain⟨e,he,f,hf,_,_,_,rfl⟩:=prM_mem.1 g1
    obtain⟨_,x,_,e2,_⟩:=ha.tr he
    obtain⟨_,y,_,f2,_⟩:=hb.tr hf
    exact⟨x,y,pph a b (s n),by rw[← g2]; unfold pmv; simp only[e2,f2]⟩
  obtain⟨P,hP⟩:∃P:Nat→Nat,∀n,∃(q:Nat) (h:Int),s n=[(P n:Int),(q:Int),h]:=⟨fun n=>Classical.choose (hst n),fun n=>Classical.choose_spec (hst n)⟩
  obtain⟨Q,hQ⟩:∃Q:Nat→Nat,∀n,∃(h:Int),s n=[(P n:Int),(Q n:Int),h]:=⟨fun n=>Classical.choose (hP n),fun n=>Classical.choose_spec (hP n)⟩
  obtain⟨H,hH⟩:∃H:Nat→Int,∀n,s n=[(P n:Int),(Q n:Int),H n]:=⟨fun n=>Classical.choose (hQ n),fun n=>Classical.choose_spec (hQ n)⟩
  have step:∀n,StE a.edges w n (P n) (P (n+1))∧StE b.edges w n (Q n) (Q (n+1))∧H (n+1)=if H n=0 then (if Go.Proofs.YtbanccfdojgocaaGreat.tru a.acc (P n) then 1 else 0) else (if Go.Proofs.YtbanccfdojgocaaGreat.tru b.acc (Q n) then 0 else 1):=by
   intro n
   obtain⟨m,g1,g2,g3⟩:=h1 n
   obtain⟨e,he,f,hf,k1,k2,k3,rfl⟩:=prM_mem.1 g1
   obtain⟨k4,k5⟩:=(pmv_on ha hb he hf (hw n).1 (hw n).2).2 ⟨k3,g3⟩
   rw[hH (n+1)] at g2
   unfold pmv at g2
   simp only[List.cons.injEq,and_true] at g2
   rw[hH n] at k1 k2 g2
   simp only[List.getD_cons_zero,List.getD_cons_succ] at k1 k2
   refine⟨⟨e,he,k1,g2.1,k4⟩,⟨f,hf,k2,g2.2.1,k5⟩,?_⟩
   rw[← g2.2.2]
   unfold pph
   simp only[List.getD_cons_zero,List.getD_cons_succ,Int.toNat_natCast]
  have acc:∀n,∃k,n≤k∧H k=1∧Go.Proofs.YtbanccfdojgocaaGreat.tru b.acc (Q k):=by
   intro n
   obtain⟨k,g1,g2⟩:=h2 n
   unfold prC at g2
   rw[hH k] at g2
   simp only[List.getD_cons_zero,List.getD_cons_succ,Int.toNat_natCast,Bool.and_eq_true,decide_eq_true_eq] at g2
   exact⟨k,g1,g2.1,g2.2⟩
  have accA:∀n,∃k,n≤k∧Go.Proofs.YtbanccfdojgocaaGreat.tru a.acc (P k):=by
   intro n
   apply Classical.byContradiction
   intro hno
   obtain⟨k,g1,g2,g3⟩:=acc n
   have hz:∀d,H (k+1+d)=0:=by
    intro d
    induction d with
    | zero=>rw[Nat.add_zero,(step k).2.2,if_neg (by omega),if_pos g3]
    | succ d ih=>rw[← Nat.add_assoc,(step _).2.2,if_pos ih,if_neg fun hh=>hno ⟨_,by omega,hh⟩]
   obtain⟨k2,g4,g5,_⟩:=acc (k+1)
   have:=hz (k2-(k+1))
   rw[show k+1+(k2-(k+1))=k2 by omega] at this
   omega
  have h00:=hH 0
  rw[hs0] at h00
  simp only[List.cons.injEq] at h00
  exact⟨⟨P 0,by rw[← h00.1]; exact hp0,Run.of_seq (fun n=>(step n).1) accA⟩,⟨Q 0,by rw[← h00.2.1]; exact hq0,Run.of_seq (fun n=>(step n).2.1) fun n=>by
   obtain⟨k,g1,_,g2⟩:=acc n
   exact⟨k,g1,g2⟩⟩⟩
 ·rintro⟨⟨p0,hp0,ra⟩,⟨q0,hq0,rb⟩⟩
  obtain⟨P,P0,P1,P2⟩:=Run.seq ra
  obtain⟨Q,Q0,Q1,Q2⟩:=Run.seq rb
  obtain⟨H,H0,H1⟩:∃H:Nat→Int,H 0=0∧∀n,H (n+1)=pph a b [(P n:Int),(Q n:Int),H n]:=
   ⟨fun n=>Nat.rec 0 (fun n h=>pph a b [(P n:Int),(Q n:Int),h]) n,rfl,fun _=>rfl⟩
  have H1':∀n,H (n+1)=if H n=0 then (if Go.Proofs.YtbanccfdojgocaaGreat.tru a.acc (P n) then 1 else 0) else (if Go.Proofs.YtbanccfdojgocaaGreat.tru b.acc (Q n) then 0 else 1):=fun n=>by
   rw[H1]; unfold pph; simp only[List.getD_cons_zero,List.getD_cons_succ,Int.toNat_natCast]
  have H01:∀n,H n=0∨H n=1:=by
   intro n
   cases n with
   | zero=>exact .inl H0
   | succ n=>
    rw[H1']
    by_cases h1:H n=0
    ·rw[if_pos h1]; by_cases h2:Go.Proofs.YtbanccfdojgocaaGreat.tru a.acc (P n) <;> simp[h2]
    ·rw[if_neg h1]; by_cases h2:Go.Proofs.YtbanccfdojgocaaGreat.tru b.acc (Q n) <;> simp[h2]
  have one:∀n,∃k,n≤k∧H k=1:=by
   intro n
   rcases H01 n with h | h
   ·obtain⟨k,g1,g2,g3⟩:=ph_next (H:=H) (X:=fun n=>Go.Proofs.YtbanccfdojgocaaGreat.tru a.acc (P n)) (p:=0) (q:=1) (fun n hn=>by rw[H1',if_pos hn]; exact⟨fun h=>if_pos h,fun h=>if_neg h⟩) P2 n h
    exact⟨k+1,by omega,by rw[H1',if_pos g2,if_pos g3]⟩
   ·exact⟨n,Nat.le_refl _,h⟩
  refine⟨fun n=>[(P n:Int),(Q n:Int),H n],?_,fun n=>?_,fun n=>?_⟩
  ·rw[prI_mem]
   exact⟨(P 0:Int),by rw[P0]; exact hp0,(Q 0:Int),by rw[Q0]; exact hq0,by simp only[H0]⟩
  ·obtain⟨e,he,e1,e2,e3⟩:=P1 n
   obtain⟨f,hf,f1,f2,f3⟩:=Q1 n
   rw[Nat.zero_add] at e3 f3
   obtain⟨g1,g2⟩:=(pmv_on (s:=[(P n:Int),(Q n:Int),H n]) ha hb he hf (hw n).1 (hw n).2).1 ⟨e3,f3⟩
   refine⟨pmv a b [(P n:Int),(Q n:Int),H n] e f,prM_mem.2 ⟨e,he,f,hf,by simpa using e1,by simpa using f1,g1,rfl⟩,?_,g2⟩
   unfold pmv
   simp only[e2,f2,H1]
  ·obtain⟨k,g1,g2⟩:=one n
   obtain⟨m,g3,g4,g5⟩:=ph_next (H:=H) (X:=fun n=>Go.Proofs.YtbanccfdojgocaaGreat.tru b.acc (Q n)) (p:=1) (q:=0) (fun n hn=>by rw[H1',if_neg (by omega)]; exact⟨fun h=>if_pos h,fun h=>if_neg h⟩) Q2 k g2
   refine⟨m,by omega,?_⟩
   unfold prC
   simp only[List.getD_cons_zero,List.getD_cons_succ,Int.toNat_natCast,Bool.and_eq_true,decide_eq_true_eq]
   exact⟨g4,g5⟩
end Fm
end Go.Proofs.YtbanccfdojgocaaGreat

namespace Go.Proofs.YtbanccfdojgocaaGreat
open Go
namespace Fm
theorem acc_and {x y:Exq}(hx:trOk x) (hy:trOk y) (hz:trOk (.mk 4 0 [x,y])) (hK:(exN (prM (trA x) (trA y)) (prC (trA y)) (prI (trA x) (trA y)) 64).1.length≤64) (hp:(prA (trA x) (trA y)).Ok) {l:Las}(hl:l.Ok):(trA (.mk 4 0 [x,y])).accB l=(prA (trA x) (trA y)).accB l:=by
 have hw:=Las.word_ok hl
 rw[Bool.eq_iff_iff,acc_sat hz hl,Aut.accB_lang hp hl,prA_lang (trA_ok hx) (trA_ok hy) hK hw,trA_lang hx hw,trA_lang hy hw,sat4 (x:=.mk 4 0 [x,y]) rfl]
 exact Iff.rfl
end Fm
end Go.Proofs.YtbanccfdojgocaaGreat

namespace Go.Proofs.YtbanccfdojgocaaGreat
open Go
def H_impl_IntersectAutomata:Hint:=⟨[(0,false),(1,false),(2,false),(3,false),(4,true),(5,false),(6,false),(8,false),(10,false),(11,false),(22,false),(23,false),(24,false),(29,false),(30,false),(31,false)],[[0,1,5,7,8,9,13,14,15],[0,1,5,8,9]]⟩
def K25_1:Pl:=.x 20 (.extract 0 (.v 19)) <|
 .x 21 (.extract 1 (.v 19)) <|
 .o (.pset none 4 0 3 (.v 20)) <|
 .m 5 21 .done
@[simp] def W25_1 := Pl.w K25_1.eq_1
def K25_2:C:=.seq (.pl <| .e 16 6 <|
 .m 16 6 <|
 .x 17 (.mkf (.func fn_impl_IntersectAutomata_2) [] [.v 3]) <|
 .m 18 9 <|
 .c 19 (.call fn_impl_explore_impl_triple [.v 16,.v 17,.v 18]) K25_1) (.ret)
@[simp] def W25_2 := C.w K25_2.eq_1
def K25_3:C:=.seq (.pl <| .e 16 1 <|
 .x 16 (.mkf (.func fn_impl_IntersectAutomata_1) [] [.v 2,.v 3]) <|
 .m 9 16 .done) K25_2
@[simp] def W25_3 := C.w K25_3.eq_1
def K25_4:C:=.pl <| .e 16 1 <|
 .x 16 (.bin .add (.v 12) (.c (.int .i64 1))) <|
 .m 12 16 .done
@[simp] def W25_4 := C.w K25_4.eq_1
def K25_5:C:=.pl <| .e 16 1 <|
 .x 16 (.bin .add (.v 15) (.c (.int .i64 1))) <|
 .m 15 16 .done
@[simp] def W25_5 := C.w K25_5.eq_1
def K25_6:Pl:=.m 6 21 .done
@[simp] def W25_6 := Pl.w K25_6.eq_1
def K25_7:C:=.pl <| .e 16 6 <|
 .m 16 6 <|
 .m 17 7 <|
 .m 18 8 <|
 .x 19 (.build [.int .i64 0,.int .i64 0,.int .i64 0] [(0,1,.v 17),(1,1,.v 18),(2,1,.c (.int .i64 0))]) <|
 .o (.psl 20 [.int .i64 0,.int .i64 0,.int .i64 0] [(0,3,.v 19)]) <|
 .c 21 (.app 24 3 [.int .i64 0,.int .i64 0,.int .i64 0] (.o (.v 16)) (.p 1 20)) K25_6
@[simp] def W25_7 := C.w K25_7.eq_1
def K25_8:C:=.seq (.block 3 (.seq (.pl <| .e 16 2 <|
 .x 16 (.ia 1 (.v 13) (.v 15)) <|
 .l 17 16 <|
 .m 8 17 .done) K25_7)) K25_5
@[simp] def W25_8 := C.w K25_8.eq_1
def K25_9:C:=.seq (.cond 16 (.v 16) (.skip) (.exit 2)) K25_8
@[simp] def W25_9 := C.w K25_9.eq_1
def K25_10:C:=.seq (.pl <| .e 16 1 <|
 .x 16 (.bin .lss (.v 15) (.v 14)) .done) K25_9
@[simp] def W25_10 := C.w K25_10.eq_1
def K25_11:C:=.block 2 (.loop 16 [0,1,5,8,9] K25_10)
@[simp] def W25_11 := C.w K25_11.eq_1
def K25_12:C:=.seq (.pl <| .e 16 1 <|
 .x 16 (.fa 0 (.v 3)) <|
 .l 13 16 <|
 .x 14 (.lenV (.v 13)) <|
 .x 15 (.mv (.c (.int .i64 0))) .done) K25_11
@[simp] def W25_12 := C.w K25_12.eq_1
def K25_13:C:=.seq (.block 1 (.seq (.pl <| .e 16 2 <|
 .x 16 (.ia 1 (.v 10) (.v 12)) <|
 .l 17 16 <|
 .m 7 17 .done) K25_12)) K25_4
@[simp] def W25_13 := C.w K25_13.eq_1
def K25_14:C:=.seq (.cond 16 (.v 16) (.skip) (.exit 0)) K25_13
@[simp] def W25_14 := C.w K25_14.eq_1
def K25_15:C:=.seq (.pl <| .e 16 1 <|
 .x 16 (.bin .lss (.v 12) (.v 11)) .done) K25_14
@[simp] def W25_15 := C.w K25_15.eq_1
def K25_16:C:=.block 0 (.loop 16 [0,1,5,7,8,9,13,14,15] K25_15)
@[simp] def W25_16 := C.w K25_16.eq_1
def K25_17:C:=.seq (.seq (.pl <| .e 16 1 <|
 .x 16 (.fa 0 (.v 2)) <|
 .l 10 16 <|
 .x 11 (.lenV (.v 10)) <|
 .x 12 (.mv (.c (.int .i64 0))) .done) K25_16) K25_3
@[simp] def W25_17 := C.w K25_17.eq_1
def K25_18:C:=.seq (.pl <| .e 16 0 <|
 .x 6 (.mv (.c (.slice none 0 0))) .done) K25_17
@[simp] def W25_18 := C.w K25_18.eq_1
def K25_19:C:=.seq (.pl <| .e 16 1 <|
 .x 16 (.build [.slice none 0 0,.slice none 0 0,.slice none 0 0] []) <|
 .o (.pset none 4 0 3 (.v 16)) <|
 .x 5 (.mv (.c (.bool false))) .done) (.ret)
@[simp] def W25_19 := C.w K25_19.eq_1
def K25_20:C:=.cond 16 (.v 23) K25_19 (.skip)
@[simp] def W25_20 := C.w K25_20.eq_1
def K25_21:Pl:=.n 19 (.px (some 22) (.un .not (.v 21))) <|
 .x 23 (.pick (.v 19) (.c (.bool true)) (.v 22)) .done
@[simp] def W25_21 := Pl.w K25_21.eq_1
def K25_22:Pl:=.x 18 (.un .not (.v 17)) <|
 .m 19 18 <|
 .n 19 (.ld (some 20) (.v 3) (some 3)) <|
 .st (.act (some (.v 19,false)) (.ex (some 21) (.call fn_impl_AutomatonValid [.v 20]))) K25_21
@[simp] def W25_22 := Pl.w K25_22.eq_1
def K25_23:C:=.seq (.seq (.pl <| .e 16 8 <|
 .o (.ld (some 16) (.v 2) (some 3)) <|
 .c 17 (.call fn_impl_AutomatonValid [.v 16]) K25_22) K25_20) K25_18
@[simp] def W25_23 := C.w K25_23.eq_1
def K25_24:Pl:=.o (.pnew 4 (.c (.agg #[.slice none 0 0,.slice none 0 0,.slice none 0 0])) []) <|
 .x 5 (.mv (.c (.bool false))) .done
@[simp] def W25_24 := Pl.w K25_24.eq_1
def K25_25:Pl:=.c 3 (.alloc (.v 1)) K25_24
@[simp] def W25_25 := Pl.w K25_25.eq_1
def B_impl_IntersectAutomata:C:=.seq (.pl <| .e 16 0 <|
 .c 2 (.alloc (.v 0)) K25_25) K25_23
@[simp] def WB_impl_IntersectAutomata := C.w B_impl_IntersectAutomata.eq_1
def R_impl_IntersectAutomata:FIR:=⟨B_impl_IntersectAutomata,16,[(4,some (some 3)),(5,none)]⟩
theorem IR_impl_IntersectAutomata:cfun Tryz.prog H_impl_IntersectAutomata Tryz.f25=some R_impl_IntersectAutomata:=by kernel_rfl
theorem EN_impl_IntersectAutomata:ENT Tryz.prog B_impl_IntersectAutomata [(4,some (some 3)),(5,none)] 2 16 fn_impl_IntersectAutomata:=fun hargs hw=>enter Tryz.func25 rfl IR_impl_IntersectAutomata hargs hw
def H_impl_IntersectAutomata_1:Hint:=⟨[(0,false),(1,false),(2,false),(3,true),(4,false),(5,false),(6,false),(8,true),(10,true),(36,false),(37,false),(38,false),(43,false),(44,false),(45,false)],[[0,1,4,7,8,12,13,14],[0,1,4,8]]⟩
def K80_1:C:=.seq (.pl <| .e 15 1 <|
 .m 15 6 <|
 .m 4 15 .done) (.ret)
@[simp] def W80_1 := C.w K80_1.eq_1
def K80_2:C:=.pl <| .e 15 1 <|
 .x 15 (.bin .add (.v 11) (.c (.int .i64 1))) <|
 .m 11 15 .done
@[simp] def W80_2 := C.w K80_2.eq_1
def K80_3:C:=.pl <| .e 15 1 <|
 .x 15 (.bin .add (.v 14) (.c (.int .i64 1))) <|
 .m 14 15 .done
@[simp] def W80_3 := C.w K80_3.eq_1
def K80_4:Pl:=.m 6 34 .done
@[simp] def W80_4 := Pl.w K80_4.eq_1
def K80_5:C:=.pl <| .e 15 20 <|
 .m 15 6 <|
 .a 16 7 <|
 .g 17 16 7 1 <|
 .a 18 8 <|
 .g 19 18 8 1 <|
 .x 20 (.bin .or (.v 17) (.v 19)) <|
 .a 21 7 <|
 .g 22 21 7 2 <|
 .a 23 8 <|
 .g 24 23 8 2 <|
 .x 25 (.bin .or (.v 22) (.v 24)) <|
 .a 26 7 <|
 .g 27 26 7 3 <|
 .a 28 8 <|
 .g 29 28 8 3 <|
 .m 30 5 <|
 .x 31 (.build [.int .i64 0,.int .i64 0,.int .i64 0] [(0,1,.v 27),(1,1,.v 29),(2,1,.v 30)]) <|
 .x 32 (.build [.int .i64 0,.int .i64 0,.int .i64 0,.int .i64 0,.int .i64 0] [(0,1,.v 20),(1,1,.v 25),(2,3,.v 31)]) <|
 .o (.psl 33 [.int .i64 0,.int .i64 0,.int .i64 0,.int .i64 0,.int .i64 0] [(0,5,.v 32)]) <|
 .c 34 (.app 40 5 [.int .i64 0,.int .i64 0,.int .i64 0,.int .i64 0,.int .i64 0] (.o (.v 15)) (.p 1 33)) K80_4
@[simp] def W80_5 := C.w K80_5.eq_1
def K80_6:C:=.cond 15 (.v 40) K80_5 (.skip)
@[simp] def W80_6 := C.w K80_6.eq_1
def K80_7:C:=.seq (.pl <| .e 15 26 <|
 .a 15 7 <|
 .g 16 15 7 0 <|
 .a 17 3 <|
 .g 18 17 3 0 <|
 .x 19 (.bin .eql (.v 16) (.v 18)) <|
 .m 20 19 <|
 .y 20 (.als 21 none 8) <|
 .y 20 (.pget (some 22) (some 21) 8 0 none) <|
 .y 20 (.als 23 none 3) <|
 .y 20 (.pget (some 24) (some 23) 3 1 none) <|
 .y 20 (.px (some 25) (.bin .eql (.v 22) (.v 24))) <|
 .x 26 (.pick (.v 20) (.v 25) (.c (.bool false))) <|
 .m 27 26 <|
 .y 27 (.als 28 none 7) <|
 .y 27 (.pget (some 29) (some 28) 7 2 none) <|
 .y 27 (.als 30 none 8) <|
 .y 27 (.pget (some 31) (some 30) 8 2 none) <|
 .y 27 (.px (some 32) (.bin .xor (.v 29) (.v 31))) <|
 .y 27 (.als 33 none 7) <|
 .y 27 (.pget (some 34) (some 33) 7 1 none) <|
 .y 27 (.px (some 35) (.bin .and (.v 32) (.v 34))) <|
 .y 27 (.als 36 none 8) <|
 .y 27 (.pget (some 37) (some 36) 8 1 none) <|
 .y 27 (.px (some 38) (.bin .and (.v 35) (.v 37))) <|
 .y 27 (.px (some 39) (.bin .eql (.v 38) (.c (.int .i64 0)))) <|
 .x 40 (.pick (.v 27) (.v 39) (.c (.bool false))) .done) K80_6
@[simp] def W80_7 := C.w K80_7.eq_1
def K80_8:C:=.seq (.block 3 (.seq (.pl <| .e 15 2 <|
 .x 15 (.ia 4 (.v 12) (.v 14)) <|
 .o (.ld (some 16) (.v 15) (some 4)) <|
 .o (.pnew 8 (.c (.agg #[.int .i64 0,.int .i64 0,.int .i64 0,.int .i64 0])) []) <|
 .o (.pset none 8 0 4 (.v 16)) .done) K80_7)) K80_3
@[simp] def W80_8 := C.w K80_8.eq_1
def K80_9:C:=.seq (.cond 15 (.v 15) (.skip) (.exit 2)) K80_8
@[simp] def W80_9 := C.w K80_9.eq_1
def K80_10:C:=.seq (.pl <| .e 15 1 <|
 .x 15 (.bin .lss (.v 14) (.v 13)) .done) K80_9
@[simp] def W80_10 := C.w K80_10.eq_1
def K80_11:C:=.block 2 (.loop 15 [0,1,4,8] K80_10)
@[simp] def W80_11 := C.w K80_11.eq_1
def K80_12:C:=.seq (.pl <| .e 15 1 <|
 .x 15 (.fa 2 (.v 2)) <|
 .l 12 15 <|
 .x 13 (.lenV (.v 12)) <|
 .x 14 (.mv (.c (.int .i64 0))) .done) K80_11
@[simp] def W80_12 := C.w K80_12.eq_1
def K80_13:C:=.seq (.block 1 (.seq (.pl <| .e 15 2 <|
 .x 15 (.ia 4 (.v 9) (.v 11)) <|
 .o (.ld (some 16) (.v 15) (some 4)) <|
 .o (.pnew 7 (.c (.agg #[.int .i64 0,.int .i64 0,.int .i64 0,.int .i64 0])) []) <|
 .o (.pset none 7 0 4 (.v 16)) .done) K80_12)) K80_2
@[simp] def W80_13 := C.w K80_13.eq_1
def K80_14:C:=.seq (.cond 15 (.v 15) (.skip) (.exit 0)) K80_13
@[simp] def W80_14 := C.w K80_14.eq_1
def K80_15:C:=.seq (.pl <| .e 15 1 <|
 .x 15 (.bin .lss (.v 11) (.v 10)) .done) K80_14
@[simp] def W80_15 := C.w K80_15.eq_1
def K80_16:C:=.block 0 (.loop 15 [0,1,4,7,8,12,13,14] K80_15)
@[simp] def W80_16 := C.w K80_16.eq_1
def K80_17:C:=.seq (.seq (.pl <| .e 15 1 <|
 .x 15 (.fa 2 (.v 1)) <|
 .l 9 15 <|
 .x 10 (.lenV (.v 9)) <|
 .x 11 (.mv (.c (.int .i64 0))) .done) K80_16) K80_1
@[simp] def W80_17 := C.w K80_17.eq_1
def K80_18:C:=.seq (.pl <| .e 15 0 <|
 .x 6 (.mv (.c (.slice none 0 0))) .done) K80_17
@[simp] def W80_18 := C.w K80_18.eq_1
def K80_19:C:=.pl <| .e 15 0 <|
 .x 5 (.mv (.c (.int .i64 0))) .done
@[simp] def W80_19 := C.w K80_19.eq_1
def K80_20:C:=.cond 15 (.v 25) K80_19 (.skip)
@[simp] def W80_20 := C.w K80_20.eq_1
def K80_21:C:=.seq (.seq (.pl <| .e 15 11 <|
 .a 15 3 <|
 .g 16 15 3 2 <|
 .x 17 (.bin .eql (.v 16) (.c (.int .i64 1))) <|
 .m 18 17 <|
 .y 18 (.px (some 19) (.fa 1 (.v 2))) <|
 .y 18 (.ld (some 20) (.v 19) none) <|
 .y 18 (.als 21 none 3) <|
 .y 18 (.pget (some 22) (some 21) 3 1 none) <|
 .y 18 (.px (some 23) (.ia 1 (.v 20) (.v 22))) <|
 .y 18 (.ld (some 24) (.v 23) none) <|
 .x 25 (.pick (.v 18) (.v 24) (.c (.bool false))) .done) K80_20) K80_18
@[simp] def W80_21 := C.w K80_21.eq_1
def K80_22:C:=.pl <| .e 15 0 <|
 .x 5 (.mv (.c (.int .i64 1))) .done
@[simp] def W80_22 := C.w K80_22.eq_1
def K80_23:C:=.cond 15 (.v 25) K80_22 (.skip)
@[simp] def W80_23 := C.w K80_23.eq_1
def K80_24:C:=.seq (.seq (.pl <| .e 15 11 <|
 .a 15 3 <|
 .g 16 15 3 2 <|
 .x 17 (.bin .eql (.v 16) (.c (.int .i64 0))) <|
 .m 18 17 <|
 .y 18 (.px (some 19) (.fa 1 (.v 1))) <|
 .y 18 (.ld (some 20) (.v 19) none) <|
 .y 18 (.als 21 none 3) <|
 .y 18 (.pget (some 22) (some 21) 3 0 none) <|
 .y 18 (.px (some 23) (.ia 1 (.v 20) (.v 22))) <|
 .y 18 (.ld (some 24) (.v 23) none) <|
 .x 25 (.pick (.v 18) (.v 24) (.c (.bool false))) .done) K80_23) K80_21
@[simp] def W80_24 := C.w K80_24.eq_1
def K80_25:C:=.seq (.pl <| .e 15 2 <|
 .a 15 3 <|
 .g 16 15 3 2 <|
 .m 5 16 .done) K80_24
@[simp] def W80_25 := C.w K80_25.eq_1
def B_impl_IntersectAutomata_1:C:=.seq (.pl <| .e 15 0 <|
 .o (.pnew 3 (.v 0) []) <|
 .x 4 (.mv (.c (.slice none 0 0))) .done) K80_25
@[simp] def WB_impl_IntersectAutomata_1 := C.w B_impl_IntersectAutomata_1.eq_1
def R_impl_IntersectAutomata_1:FIR:=⟨B_impl_IntersectAutomata_1,15,[(4,none)]⟩
theorem IR_impl_IntersectAutomata_1:cfun Tryz.prog H_impl_IntersectAutomata_1 Tryz.f80=some R_impl_IntersectAutomata_1:=by kernel_rfl
theorem EN_impl_IntersectAutomata_1:ENT Tryz.prog B_impl_IntersectAutomata_1 [(4,none)] 3 15 fn_impl_IntersectAutomata_1:=fun hargs hw=>enter Tryz.func80 rfl IR_impl_IntersectAutomata_1 hargs hw
def H_impl_IntersectAutomata_2:Hint:=⟨[(0,false),(1,false),(2,true),(3,false)],[]⟩
def K82_1:C:=.seq (.pl <| .e 4 11 <|
 .a 4 2 <|
 .g 5 4 2 2 <|
 .x 6 (.bin .eql (.v 5) (.c (.int .i64 1))) <|
 .m 7 6 <|
 .y 7 (.px (some 8) (.fa 1 (.v 1))) <|
 .y 7 (.ld (some 9) (.v 8) none) <|
 .y 7 (.als 10 none 2) <|
 .y 7 (.pget (some 11) (some 10) 2 1 none) <|
 .y 7 (.px (some 12) (.ia 1 (.v 9) (.v 11))) <|
 .y 7 (.ld (some 13) (.v 12) none) <|
 .x 14 (.pick (.v 7) (.v 13) (.c (.bool false))) <|
 .m 3 14 .done) (.ret)
@[simp] def W82_1 := C.w K82_1.eq_1
def B_impl_IntersectAutomata_2:C:=.seq (.pl <| .e 4 0 <|
 .o (.pnew 2 (.v 0) []) <|
 .x 3 (.mv (.c (.bool false))) .done) K82_1
@[simp] def WB_impl_IntersectAutomata_2 := C.w B_impl_IntersectAutomata_2.eq_1
def R_impl_IntersectAutomata_2:FIR:=⟨B_impl_IntersectAutomata_2,4,[(3,none)]⟩
theorem IR_impl_IntersectAutomata_2:cfun Tryz.prog H_impl_IntersectAutomata_2 Tryz.f82=some R_impl_IntersectAutomata_2:=by kernel_rfl
theorem EN_impl_IntersectAutomata_2:ENT Tryz.prog B_impl_IntersectAutomata_2 [(3,none)] 2 4 fn_impl_IntersectAutomata_2:=fun hargs hw=>enter Tryz.func82 rfl IR_impl_IntersectAutomata_2 hargs hw
def H_impl_explore_impl_triple:Hint:=⟨[(0,false),(1,false),(2,false),(6,true),(7,false),(8,true),(9,false),(10,false),(11,false),(13,true),(14,false),(16,true),(24,false),(25,false),(26,false),(70,false),(71,false),(72,false)],[[0,4,6,9,10,11,15,16,17],[0,4,6,9,11,12,13,14,15,16,17],[0,4,6,9,11,12,13,14]]⟩
def K81_1:Pl:=.o (.pset none 3 0 3 (.v 19)) <|
 .x 4 (.mv (.c (.bool true))) .done
@[simp] def W81_1 := Pl.w K81_1.eq_1
def K81_2:C:=.seq (.pl <| .e 18 2 <|
 .o (.pget (some 18) none 5 0 (some 3)) <|
 .c 19 (.call fn_impl_Automaton_copyOf [.v 18]) K81_1) (.ret)
@[simp] def W81_2 := C.w K81_2.eq_1
def K81_3:C:=.seq (.pl <| .e 18 1 <|
 .x 18 (.build [.slice none 0 0,.slice none 0 0,.slice none 0 0] []) <|
 .o (.pset none 3 0 3 (.v 18)) <|
 .x 4 (.mv (.c (.bool false))) .done) (.ret)
@[simp] def W81_3 := C.w K81_3.eq_1
def K81_4:C:=.cond 18 (.v 20) K81_3 (.skip)
@[simp] def W81_4 := C.w K81_4.eq_1
def K81_5:Pl:=.x 20 (.un .not (.v 19)) .done
@[simp] def W81_5 := Pl.w K81_5.eq_1
def K81_6:C:=.seq (.seq (.pl <| .e 18 3 <|
 .o (.pget (some 18) none 5 0 (some 3)) <|
 .c 19 (.call fn_impl_AutomatonValid [.v 18]) K81_5) K81_4) K81_2
@[simp] def W81_6 := C.w K81_6.eq_1
def K81_7:C:=.pl <| .e 18 2 <|
 .m 18 10 <|
 .x 19 (.bin .add (.v 18) (.c (.int .i64 1))) <|
 .m 10 19 .done
@[simp] def W81_7 := C.w K81_7.eq_1
def K81_8:C:=.pl <| .e 18 1 <|
 .x 18 (.bin .add (.v 17) (.c (.int .i64 1))) <|
 .m 17 18 .done
@[simp] def W81_8 := C.w K81_8.eq_1
def K81_9:Pl:=.a 32 5 <|
 .o (.pset (some 32) 5 2 1 (.v 31)) .done
@[simp] def W81_9 := Pl.w K81_9.eq_1
def K81_10:Pl:=.x 29 (.build [.int .i64 0,.int .i64 0,.int .i64 0,.int .i64 0] [(0,1,.v 20),(1,1,.v 22),(2,1,.v 24),(3,1,.v 28)]) <|
 .o (.psl 30 [.int .i64 0,.int .i64 0,.int .i64 0,.int .i64 0] [(0,4,.v 29)]) <|
 .c 31 (.app 32 4 [.int .i64 0,.int .i64 0,.int .i64 0,.int .i64 0] (.o (.v 19)) (.p 1 30)) K81_9
@[simp] def W81_10 := Pl.w K81_10.eq_1
def K81_11:C:=.pl <| .e 18 15 <|
 .a 18 5 <|
 .g 19 18 5 2 <|
 .m 20 10 <|
 .a 21 11 <|
 .g 22 21 11 0 <|
 .a 23 11 <|
 .g 24 23 11 1 <|
 .m 25 8 <|
 .a 26 11 <|
 .o (.pget (some 27) (some 26) 11 2 (some 3)) <|
 .c 28 (.callv (.v 25) [.v 27]) K81_10
@[simp] def W81_11 := C.w K81_11.eq_1
def K81_12:C:=.seq (.block 5 (.seq (.pl <| .e 18 2 <|
 .x 18 (.ia 5 (.v 15) (.v 17)) <|
 .o (.ld (some 19) (.v 18) (some 5)) <|
 .o (.pnew 11 (.c (.agg #[.int .i64 0,.int .i64 0,.int .i64 0,.int .i64 0,.int .i64 0])) []) <|
 .o (.pset none 11 0 5 (.v 19)) .done) K81_11)) K81_8
@[simp] def W81_12 := C.w K81_12.eq_1
def K81_13:C:=.seq (.cond 18 (.v 18) (.skip) (.exit 4)) K81_12
@[simp] def W81_13 := C.w K81_13.eq_1
def K81_14:C:=.seq (.pl <| .e 18 1 <|
 .x 18 (.bin .lss (.v 17) (.v 16)) .done) K81_13
@[simp] def W81_14 := C.w K81_14.eq_1
def K81_15:C:=.block 4 (.loop 18 [0,4,6,9,11,12,13,14] K81_14)
@[simp] def W81_15 := C.w K81_15.eq_1
def K81_16:Pl:=.x 16 (.lenV (.v 15)) <|
 .x 17 (.mv (.c (.int .i64 0))) .done
@[simp] def W81_16 := Pl.w K81_16.eq_1
def K81_17:C:=.seq (.pl <| .e 18 5 <|
 .m 18 2 <|
 .l 19 7 <|
 .m 20 10 <|
 .x 21 (.ia 3 (.v 19) (.v 20)) <|
 .o (.ld (some 22) (.v 21) (some 3)) <|
 .c 15 (.callv (.v 18) [.v 22]) K81_16) K81_15
@[simp] def W81_17 := C.w K81_17.eq_1
def K81_18:Pl:=.a 28 5 <|
 .o (.pset (some 28) 5 1 1 (.v 27)) .done
@[simp] def W81_18 := Pl.w K81_18.eq_1
def K81_19:Pl:=.o (.psl 26 [.bool false] [(0,1,.v 25)]) <|
 .c 27 (.app 1 1 [.bool false] (.o (.v 19)) (.p 1 26)) K81_18
@[simp] def W81_19 := Pl.w K81_19.eq_1
def K81_20:C:=.seq (.pl <| .e 18 11 <|
 .a 18 5 <|
 .g 19 18 5 1 <|
 .m 20 1 <|
 .l 21 7 <|
 .m 22 10 <|
 .x 23 (.ia 3 (.v 21) (.v 22)) <|
 .o (.ld (some 24) (.v 23) (some 3)) <|
 .c 25 (.callv (.v 20) [.v 24]) K81_19) K81_17
@[simp] def W81_20 := C.w K81_20.eq_1
def K81_21:C:=.seq (.pl <| .e 18 1 <|
 .x 18 (.build [.slice none 0 0,.slice none 0 0,.slice none 0 0] []) <|
 .o (.pset none 3 0 3 (.v 18)) <|
 .x 4 (.mv (.c (.bool false))) .done) (.ret)
@[simp] def W81_21 := C.w K81_21.eq_1
def K81_22:C:=.cond 18 (.v 25) K81_21 (.skip)
@[simp] def W81_22 := C.w K81_22.eq_1
def K81_23:C:=.seq (.block 3 (.seq (.seq (.pl <| .e 18 8 <|
 .m 18 10 <|
 .x 19 (.bin .eql (.v 18) (.c (.int .i64 64))) <|
 .m 20 19 <|
 .n 20 (.als 21 none 5) <|
 .n 20 (.pget (some 22) (some 21) 5 2 none) <|
 .n 20 (.px (some 23) (.lenV (.v 22))) <|
 .n 20 (.px (some 24) (.bin .gtr (.v 23) (.c (.int .i64 2048)))) <|
 .x 25 (.pick (.v 20) (.c (.bool true)) (.v 24)) .done) K81_22) K81_20)) K81_7
@[simp] def W81_23 := C.w K81_23.eq_1
def K81_24:C:=.cond 18 (.v 21) (.skip) (.exit 2)
@[simp] def W81_24 := C.w K81_24.eq_1
def K81_25:C:=.seq (.seq (.pl <| .e 18 4 <|
 .m 18 10 <|
 .l 19 7 <|
 .x 20 (.lenV (.v 19)) <|
 .x 21 (.bin .lss (.v 18) (.v 20)) .done) K81_24) K81_23
@[simp] def W81_25 := C.w K81_25.eq_1
def K81_26:C:=.block 2 (.loop 18 [0,4,6,9,11,12,13,14,15,16,17] K81_25)
@[simp] def W81_26 := C.w K81_26.eq_1
def K81_27:C:=.seq (.seq (.pl <| .e 18 0 <|
 .x 10 (.mv (.c (.int .i64 0))) .done) K81_26) K81_6
@[simp] def W81_27 := C.w K81_27.eq_1
def K81_28:C:=.pl <| .e 18 1 <|
 .x 18 (.bin .add (.v 14) (.c (.int .i64 1))) <|
 .m 14 18 .done
@[simp] def W81_28 := C.w K81_28.eq_1
def K81_29:Pl:=.a 25 5 <|
 .o (.pset (some 25) 5 0 1 (.v 24)) .done
@[simp] def W81_29 := Pl.w K81_29.eq_1
def K81_30:Pl:=.o (.psl 23 [.int .i64 0] [(0,1,.v 22)]) <|
 .c 24 (.app 8 1 [.int .i64 0] (.o (.v 19)) (.p 1 23)) K81_29
@[simp] def W81_30 := Pl.w K81_30.eq_1
def K81_31:C:=.pl <| .e 18 8 <|
 .a 18 5 <|
 .g 19 18 5 0 <|
 .m 20 8 <|
 .o (.pget (some 21) none 9 0 (some 3)) <|
 .c 22 (.callv (.v 20) [.v 21]) K81_30
@[simp] def W81_31 := C.w K81_31.eq_1
def K81_32:C:=.seq (.block 1 (.seq (.pl <| .e 18 2 <|
 .x 18 (.ia 3 (.v 12) (.v 14)) <|
 .o (.ld (some 19) (.v 18) (some 3)) <|
 .o (.pnew 9 (.c (.agg #[.int .i64 0,.int .i64 0,.int .i64 0])) []) <|
 .o (.pset none 9 0 3 (.v 19)) .done) K81_31)) K81_28
@[simp] def W81_32 := C.w K81_32.eq_1
def K81_33:C:=.seq (.cond 18 (.v 18) (.skip) (.exit 0)) K81_32
@[simp] def W81_33 := C.w K81_33.eq_1
def K81_34:C:=.seq (.pl <| .e 18 1 <|
 .x 18 (.bin .lss (.v 14) (.v 13)) .done) K81_33
@[simp] def W81_34 := C.w K81_34.eq_1
def K81_35:C:=.block 0 (.loop 18 [0,4,6,9,10,11,15,16,17] K81_34)
@[simp] def W81_35 := C.w K81_35.eq_1
def K81_36:C:=.seq (.seq (.pl <| .e 18 0 <|
 .m 12 0 <|
 .x 13 (.lenV (.v 12)) <|
 .x 14 (.mv (.c (.int .i64 0))) .done) K81_35) K81_27
@[simp] def W81_36 := C.w K81_36.eq_1
def K81_37:C:=.seq (.pl <| .e 18 1 <|
 .x 18 (.mkf (.func fn_impl_explore_impl_triple_1) [] [.v 6,.v 7]) <|
 .m 8 18 .done) K81_36
@[simp] def W81_37 := C.w K81_37.eq_1
def K81_38:C:=.seq (.pl <| .e 18 0 <|
 .c 7 (.alloc (.c (.slice none 0 0))) .done) K81_37
@[simp] def W81_38 := C.w K81_38.eq_1
def K81_39:Pl:=.o (.ex none (.store 1 (.v 6) (.v 18))) .done
@[simp] def W81_39 := Pl.w K81_39.eq_1
def K81_40:Pl:=.c 6 (.alloc (.c (.map none))) K81_39
@[simp] def W81_40 := Pl.w K81_40.eq_1
def K81_41:C:=.seq (.pl <| .e 18 1 <|
 .c 18 (.mkm) K81_40) K81_38
@[simp] def W81_41 := C.w K81_41.eq_1
def K81_42:C:=.seq (.pl <| .e 18 0 <|
 .o (.pnew 5 (.c (.agg #[.slice none 0 0,.slice none 0 0,.slice none 0 0])) []) .done) K81_41
@[simp] def W81_42 := C.w K81_42.eq_1
def K81_43:Pl:=.x 19 (.build [.slice none 0 0,.slice none 0 0,.slice none 0 0] [(1,1,.v 18)]) <|
 .o (.pset none 3 0 3 (.v 19)) <|
 .x 4 (.mv (.c (.bool true))) .done
@[simp] def W81_43 := Pl.w K81_43.eq_1
def K81_44:C:=.seq (.pl <| .e 18 2 <|
 .c 18 (.mks 1 1 [.bool false] (.c (.int .i64 1)) (.c (.int .i64 1))) K81_43) (.ret)
@[simp] def W81_44 := C.w K81_44.eq_1
def K81_45:C:=.cond 18 (.v 20) K81_44 (.skip)
@[simp] def W81_45 := C.w K81_45.eq_1
def K81_46:C:=.seq (.seq (.pl <| .e 18 3 <|
 .m 18 0 <|
 .x 19 (.lenV (.v 18)) <|
 .x 20 (.bin .eql (.v 19) (.c (.int .i64 0))) .done) K81_45) K81_42
@[simp] def W81_46 := C.w K81_46.eq_1
def B_impl_explore_impl_triple:C:=.seq (.pl <| .e 18 0 <|
 .o (.pnew 3 (.c (.agg #[.slice none 0 0,.slice none 0 0,.slice none 0 0])) []) <|
 .x 4 (.mv (.c (.bool false))) .done) K81_46
@[simp] def WB_impl_explore_impl_triple := C.w B_impl_explore_impl_triple.eq_1
def R_impl_explore_impl_triple:FIR:=⟨B_impl_explore_impl_triple,18,[(3,some (some 3)),(4,none)]⟩
theorem IR_impl_explore_impl_triple:cfun Tryz.prog H_impl_explore_impl_triple Tryz.f81=some R_impl_explore_impl_triple:=by kernel_rfl
theorem EN_impl_explore_impl_triple:ENT Tryz.prog B_impl_explore_impl_triple [(3,some (some 3)),(4,none)] 3 18 fn_impl_explore_impl_triple:=fun hargs hw=>enter Tryz.func81 rfl IR_impl_explore_impl_triple hargs hw
def H_impl_explore_impl_triple_1:Hint:=⟨[(0,false),(1,false),(2,false),(3,true),(4,false),(5,false),(6,false)],[]⟩
def K141_1:C:=.seq (.pl <| .e 7 1 <|
 .m 7 5 <|
 .m 4 7 .done) (.ret)
@[simp] def W141_1 := C.w K141_1.eq_1
def K141_2:Pl:=.o (.ex none (.store 1 (.v 2) (.v 10))) .done
@[simp] def W141_2 := Pl.w K141_2.eq_1
def K141_3:C:=.pl <| .e 7 4 <|
 .l 7 2 <|
 .o (.pget (some 8) none 3 0 (some 3)) <|
 .o (.psl 9 [.int .i64 0,.int .i64 0,.int .i64 0] [(0,3,.v 8)]) <|
 .c 10 (.app 24 3 [.int .i64 0,.int .i64 0,.int .i64 0] (.o (.v 7)) (.p 1 9)) K141_2
@[simp] def W141_3 := C.w K141_3.eq_1
def K141_4:C:=.seq (.pl <| .e 7 3 <|
 .l 7 1 <|
 .o (.pget (some 8) none 3 0 (some 3)) <|
 .m 9 5 <|
 .o (.ex none (.mput (.many [.i,.i,.i]) (.v 7) (.v 8) (.v 9))) .done) K141_3
@[simp] def W141_4 := C.w K141_4.eq_1
def K141_5:C:=.seq (.pl <| .e 7 2 <|
 .l 7 2 <|
 .x 8 (.lenV (.v 7)) <|
 .m 5 8 .done) K141_4
@[simp] def W141_5 := C.w K141_5.eq_1
def K141_6:C:=.cond 7 (.v 8) K141_5 (.skip)
@[simp] def W141_6 := C.w K141_6.eq_1
def K141_7:C:=.seq (.seq (.pl <| .e 7 2 <|
 .m 7 6 <|
 .x 8 (.un .not (.v 7)) .done) K141_6) K141_1
@[simp] def W141_7 := C.w K141_7.eq_1
def K141_8:Pl:=.m 10 9 <|
 .x 11 (.extract 0 (.v 10)) <|
 .x 12 (.extract 1 (.v 10)) <|
 .m 5 11 <|
 .m 6 12 .done
@[simp] def W141_8 := Pl.w K141_8.eq_1
def K141_9:C:=.seq (.pl <| .e 7 6 <|
 .l 7 1 <|
 .o (.pget (some 8) none 3 0 (some 3)) <|
 .c 9 (.mget (.many [.i,.i,.i]) (.int .i64 0) true (.v 7) (.v 8)) K141_8) K141_7
@[simp] def W141_9 := C.w K141_9.eq_1
def B_impl_explore_impl_triple_1:C:=.seq (.pl <| .e 7 0 <|
 .o (.pnew 3 (.v 0) []) <|
 .x 4 (.mv (.c (.int .i64 0))) .done) K141_9
@[simp] def WB_impl_explore_impl_triple_1 := C.w B_impl_explore_impl_triple_1.eq_1
def R_impl_explore_impl_triple_1:FIR:=⟨B_impl_explore_impl_triple_1,7,[(4,none)]⟩
theorem IR_impl_explore_impl_triple_1:cfun Tryz.prog H_impl_explore_impl_triple_1 Tryz.f141=some R_impl_explore_impl_triple_1:=by kernel_rfl
theorem EN_impl_explore_impl_triple_1:ENT Tryz.prog B_impl_explore_impl_triple_1 [(4,none)] 3 7 fn_impl_explore_impl_triple_1:=fun hargs hw=>enter Tryz.func141 rfl IR_impl_explore_impl_triple_1 hargs hw
end Go.Proofs.YtbanccfdojgocaaGreat

namespace Go.Proofs.YtbanccfdojgocaaGreat
open Go
def pv3 (p:Int×Int×Int):Value:=.agg #[.int .i64 p.1,.int .i64 p.2.1,.int .i64 p.2.2]
def lf3 (p:Int×Int×Int):List Int:=[p.1,p.2.1,p.2.2]
theorem lf3_inj (a b:Int×Int×Int) (h:lf3 a=lf3 b):a=b:=by
 obtain⟨a1,a2,a3⟩:=a
 obtain⟨b1,b2,b3⟩:=b
 simpa[lf3] using h
theorem keyEq_3:∀a b:Int×Int×Int,keyEq (.many [.i,.i,.i]) (pv3 a) (pv3 b)=some (decide (a=b)):=by
 rintro⟨a1,a2,a3⟩ ⟨b1,b2,b3⟩
 simp[keyEq,eqB,pv3]
@[reducible] def Tbs3 (b6 b7 bm:Nat) (fv:Value) (F:List (Int×Int×Int)) (m:List ((Int×Int×Int)×Int)):List HP:=[bx b6 [.map (some bm)],bx b7 [fv],mpo pv3 vi bm m,ow fv F]
theorem c_find3 {g h:Heap}{Γ:List HP}{b6 b7 bm:Nat}{fv:Value}{F:List (Int×Int×Int)}{m:List ((Int×Int×Int)×Int)}{a:Int×Int×Int}(H:HS g (Tbs3 b6 b7 bm fv F m++Γ) h) (hm:MI F m) (hF:F.length≤1073741824) (ha:I64 a.1∧I64 a.2.1∧I64 a.2.2) :
  CallE Tryz.prog fn_impl_explore_impl_triple_1 [pv3 a,.pointer (some ⟨b6,0,none⟩),.pointer (some ⟨b7,0,none⟩)] h (fun u h'=>∃fv' m',u=.int .i64 (atK F a)∧HS g (Tbs3 b6 b7 bm fv' (adK F a) m'++Γ) h'∧MI (adK F a) m'):=by
 have H:HS g (bx b6 [.map (some bm)]::bx b7 [fv]::mpo pv3 vi bm m::ow fv F::Γ) h:=H
 refine CallE.gen fun k hk=>EN_impl_explore_impl_triple_1 rfl ?_
 simp -implicitDefEqProofs (disch:=first|omega|(simp only[LnZ];omega))[wrap64,pv3,H.bxld0,setC]
 refine HS.mget (kf:=pv3) (vf:=vi) (a:=a) H.sw2 rfl rfl keyEq_3 ?_
 by_cases hf:a∈F
 ·rw[hm.get hf]
  simp -implicitDefEqProofs (disch:=first|omega|(simp only[LnZ];omega))[wrap64,vi]
  refine RetK.keep (hk _ _ ⟨fv,m,rfl,?_,?_⟩)
  ·rw[adK,if_pos hf]; exact H
  ·rw[adK,if_pos hf]; exact hm
 ·rw[hm.no hf]
  have hF2:=H.sw3.rep.lt
  simp -implicitDefEqProofs (disch:=first|omega|(simp only[LnZ];omega))[wrap64,vi,H.sw1.bxld0,H.sw3.rep.len,H.bxld0]
  refine HS.mput (kf:=pv3) (vf:=vi) (a:=a) (v:=(F.length:Int)) H.sw2 rfl rfl rfl keyEq_3 (hm.no hf) fun h1 H=>?_
  simp -implicitDefEqProofs (disch:=first|omega|(simp only[LnZ];omega))[wrap64,setC,H.sw2.bxld0]
  refine HS.app1 (bytes:=24) H.sw3 a rfl rfl rfl ha rfl rfl (by omega) (by omega) fun fv' h2 H=>?_
  simp -implicitDefEqProofs (disch:=first|omega|(simp only[LnZ];omega))[wrap64]
  refine H.sw3.bxst (u:=fv') rfl rfl (by rw[H.rep.cells]; rfl) (by rw[H.rep.cells]; simp[H.rep.one]) (by simp[H.rep.cells]) fun h3 H=>?_
  have H:HS g (bx b7 [fv']::ow fv' (F++[a])::mpo pv3 vi bm (m++[(a,(F.length:Int))])::bx b6 [.map (some bm)]::Γ) h3:=by simpa[setC,H.sw1.rep.cells] using H
  simp -implicitDefEqProofs (disch:=first|omega|(simp only[LnZ];omega))[wrap64]
  refine RetK.keep (hk _ _ ⟨fv',_,by rw[atK_not hf],?_,by rw[adK,if_neg hf]; exact hm.add hf⟩)
  rw[adK,if_neg hf]
  exact H.sw3.under fun _ H=>H.under fun _ H=>H.sw1
def toMv3 (m:Int×Int×Int×Int×Int):Fm.Mv:=⟨m.1,m.2.1,lf3 m.2.2⟩
set_option maxHeartbeats 4000000 in
theorem c_explore3 {g:Heap}{iv fa fm:Value}{I:List (Int×Int×Int)}{mv:List Int→List Fm.Mv}{ac:List Int→Bool}{P:Int×Int×Int→Prop}{K:Nat}{Mf:Int×Int×Int→List (Int×Int×Int×Int×Int)}
  (hK:K≤8388608) (hI:I.Nodup) (hIl:I.length≤8388608) (hP0:∀p∈I,P p) (hPok:∀p,P p→I64 p.1∧I64 p.2.1∧I64 p.2.2)
  (hMf:∀p,P p→(Mf p).map toMv3=mv (lf3 p)∧(Mf p).length≤K∧∀m∈Mf p,P m.2.2)
  (hmo:∀p,P p→∀m∈mv (lf3 p),∃c v:Nat,m.care=c∧m.value=v∧c<8∧v &&& c=v)
  {fA fM:FuncId}{a1 a2 m1 m2:List Value}(hfa:fnOf fa=some (fA,a1,a2)) (hfm:fnOf fm=some (fM,m1,m2))
  (hA:∀p h,P p→g.le h→CallE Tryz.prog fA (a1++pv3 p::a2) h (fun u h'=>h.le h'∧u=.bool (ac (lf3 p))))
  (hM:∀p h,P p→g.le h→CallE Tryz.prog fM (m1++pv3 p::m2) h (fun u h'=>HS h [ow u (Mf p)] h'))
  (R:Rep g iv I) :
  CallE Tryz.prog fn_impl_explore_impl_triple [iv,fa,fm] g (fun u h'=>∃w,u=.tuple #[w,.bool (decide (Fm.exOk mv ac (I.map lf3)))]∧HS g [ow w (Fm.exR mv ac (I.map lf3))] h'):=by
 refine CallE.gen fun k hk=>EN_impl_explore_impl_triple rfl ?_
 by_cases q0:I=[]
 ·subst q0
  have hex:Fm.exN mv ac ([].map lf3) 64=([],[],[]):=Fm.exN_nil 64
  have hok:Fm.exOk mv ac (([]:List (Int×Int×Int)).map lf3):=by unfold Fm.exOk; rw[hex]; simp
  simp -implicitDefEqProofs (disch:=first|omega|(simp only[LnZ];omega))[wrap64,R.len]
  refine HS.init.mks (α:=Bool) (z:=false) rfl rfl ⟨rfl,rfl⟩ (by omega) (by decide) (by decide) fun w h1 H=>?_
  simp -implicitDefEqProofs (disch:=first|omega|(simp only[LnZ];omega))[wrap64,setC,H.rep.cells,H.rep.one]
  refine RetK.keep (hk _ _ ⟨_,by rw[decide_eq_true hok],?_⟩)
  rw[Fm.exR,if_pos hok,Fm.exA,hex]
  exact HS.mkAut (a:=⟨[],[false],[]⟩) ((H.nil_ow (α:=Tr)).sw1.nil_ow (α:=Int))
 have q0i:¬(I.length:Int)=0:=fun e=>q0 (List.length_eq_zero_iff.1 (by omega))
 have q0n:¬I.length=0:=by omega
 simp -implicitDefEqProofs (disch:=first|omega|(simp only[LnZ];omega))[wrap64,R.len,q0i,q0n,q0]
 refine HS.init.mkm pv3 vi fun bm h1 H=>?_
 simp -implicitDefEqProofs (disch:=first|omega|(simp only[LnZ];omega))[wrap64]
 refine H.alloc rfl fun b6 h2 H=>?_
 simp -implicitDefEqProofs (disch:=first|omega|(simp only[LnZ];omega))[wrap64]
 refine H.bxst (u:=.map (some bm)) rfl rfl rfl rfl (by simp) fun h3 H=>?_
 have H:HS g [bx b6 [.map (some bm)],mpo pv3 vi bm []] h3:=by simpa[setC] using H
 simp -implicitDefEqProofs (disch:=first|omega|(simp only[LnZ];omega))[wrap64]
 refine H.alloc rfl fun b7 h4 H=>?_
 have H:HS g (Tbs3 b6 b7 bm (.slice none 0 0) [] []++[]) h4:=H.nil_ow.bk3.sw1
 obtain⟨fv,hfv⟩:∃fv,fv=Value.func (.func fn_impl_explore_impl_triple_1) #[] #[.pointer (some ⟨b6,0,none⟩),.pointer (some ⟨b7,0,none⟩)]:=⟨_,rfl⟩
 have hfn:fnOf fv=some (fn_impl_explore_impl_triple_1,[],[.pointer (some ⟨b6,0,none⟩),.pointer (some ⟨b7,0,none⟩)]):=by subst hfv; rfl
 have hfc:fv.cells = #[fv]:=by subst hfv; rfl
 have hf1:fv.oneCell'=true:=by subst hfv; rfl
 simp -implicitDefEqProofs (disch:=first|omega|(simp only[LnZ];omega))[wrap64,R.len]
 rw[← hfv]
 have hLd:∀F:List (Int×Int×Int),F.length=(F.map lf3).length:=fun F=>by simp
 refine wp_count I.length (fun i e h'=>∃(iw fw:Value) (m:List ((Int×Int×Int)×Int)),e=[none,some fa,some fm,some (.agg #[.slice none 0 0,.slice none 0 0,.slice none 0 0]),none,some (.agg #[iw,.slice none 0 0,.slice none 0 0]),none,some (.pointer (some ⟨b7,0,none⟩)),some fv,none,none,none,some iv,some (.int .i64 I.length),some (.int .i64 i),none,none,none] ∧
  HS g (Tbs3 b6 b7 bm fw (I.take i) m++[ow iw (Fm.upto i)]) h'∧MI (I.take i) m) ⟨.slice none 0 0,.slice none 0 0,[],by simp,?_,by simpa using MI.nil⟩ ?_
 ·have:=H.nil_ow (α:=Int)
  exact this.bk4
 clear H
 rintro J i _ h5 hJ hi ⟨iw,fw,m,rfl,H,hm⟩
 simp -implicitDefEqProofs (disch:=first|omega|(simp only[LnZ];omega))[wrap64]
 refine IteW.mk (fun hlt=>?_) (fun hge=>?_)
 ·have hlx:i<I.length:=by omega
  have hpk:=hPok _ (hP0 _ (List.getElem_mem hlx))
  have hu:=hload_le H.base (R.ldF hlx)
  change hload _ (some (elp 3 iv i)) (some 3)=some (pv3 I[i]) at hu
  have hX:=R.X (n:=3) rfl
  have hnot:I[i]∉I.take i:=fun hh=>by
   obtain⟨j,hj,e⟩:=List.mem_iff_getElem.1 hh
   simp only[List.length_take] at hj
   rw[List.getElem_take] at e
   have:=(List.getElem_inj hI).1 e
   omega
  have hat:atK (I.take i) I[i]=i:=by rw[atK_not hnot,List.length_take,Nat.min_eq_left (by omega)]
  have had:adK (I.take i) I[i]=I.take (i+1):=by rw[adK,if_neg hnot,List.take_add_one,List.getElem?_eq_getElem hlx]; rfl
  simp -implicitDefEqProofs (disch:=first|omega|(simp only[LnZ];omega))[wrap64,hX,hu,pv3,setC,hfn]
  refine (c_find3 (a:=I[i]) H hm (by simp only[List.length_take]; omega) hpk).go ?_
  clear H hm
  rintro _ h6 ⟨fw',m',rfl,H,hm⟩
  rw[had] at H hm
  rw[hat]
  have H:HS g (bx b6 [.map (some bm)]::bx b7 [fw']::mpo pv3 vi bm m'::ow fw' (I.take (i+1))::[ow iw (Fm.upto i)]) h6:=H
  simp -implicitDefEqProofs (disch:=first|omega|(simp only[LnZ];omega))[wrap64,setC]
  refine HS.app1 (bytes:=8) H.sw4 (i:Int) rfl rfl rfl ⟨by omega,by omega⟩ rfl rfl (by simp[Fm.upto]; omega) (by simp[Fm.upto]; omega) fun iw' h7 H=>?_
  simp -implicitDefEqProofs (disch:=first|omega|(simp only[LnZ];omega))[wrap64,setC,H.rep.cells,H.rep.one]
  refine hJ _ _ hlx ⟨iw',fw',m',by simp,?_,hm⟩
  rw[Fm.upto_succ]
  exact H.bk4
 obtain rfl:i=I.length:=by omega
 rw[List.take_length] at H hm
 simp -implicitDefEqProofs (disch:=first|omega|(simp only[LnZ];omega))[wrap64]
 clear hJ J
 obtain⟨L0,hL0⟩:∃L0,L0=I.map lf3:=⟨_,rfl⟩
 have hLI:L0.length=I.length:=by rw[hL0]; simp
 rw[← hL0] at hk
 have hQ0:∀x∈L0,∃p,P p∧x=lf3 p:=fun x hx=>by
  rw[hL0] at hx
  obtain⟨p,hp,rfl⟩:=List.mem_map.1 hx
  exact⟨p,hP0 p hp,rfl⟩
 have hQs:∀x,(∃p,P p∧x=lf3 p)→∀m∈mv x,∃p,P p∧m.to=lf3 p:=by
  rintro _ ⟨p,hp,rfl⟩ m hm
  rw[← (hMf p hp).1] at hm
  obtain⟨q,hq,rfl⟩:=List.mem_map.1 hm
  exact⟨q.2.2,(hMf p hp).2.2 q hq,rfl⟩
 have hQl:∀x,(∃p,P p∧x=lf3 p)→(mv x).length≤K:=by
  rintro _ ⟨p,hp,rfl⟩
  rw[← (hMf p hp).1,List.length_map]
  exact (hMf p hp).2.1
 have hbd:=Fm.exN_len (ac:=ac) hQ0 hQs hQl
 have hbad:∀{h':Heap},g.le h'→¬Fm.exOk mv ac L0→k (.tuple #[.agg #[.slice none 0 0,.slice none 0 0,.slice none 0 0],.bool false]) h':=fun hl hn=>hk _ _ ⟨_,by rw[decide_eq_false hn],by
  rw[Fm.exR,if_neg hn]
  exact HS.mkAut (a:=⟨[],[],[]⟩) (HS.nil_ow (Γ:=[]) hl).nil_ow.nil_ow⟩
 have hL0n:¬L0=[]:=fun e=>q0 (List.length_eq_zero_iff.1 (by rw[← hLI,e]; rfl))
 refine wp_count 65 (fun i e h'=>∃(iw aw ew fw:Value) (m:List ((Int×Int×Int)×Int)) (F:List (Int×Int×Int)),e=[none,some fa,some fm,some (.agg #[.slice none 0 0,.slice none 0 0,.slice none 0 0]),none,some (.agg #[iw,aw,ew]),none,some (.pointer (some ⟨b7,0,none⟩)),some fv,none,some (.int .i64 i),none,none,none,none,none,none,none] ∧
  HS g (Tbs3 b6 b7 bm fw F m++[ow iw (Fm.upto I.length),ow aw (Fm.exN mv ac L0 i).2.1,ow ew (Fm.exN mv ac L0 i).2.2]) h'∧MI F m∧F.map lf3=(Fm.exN mv ac L0 i).1∧(∀x∈F,P x)∧i≤64∧∀m,m<i→m<(Fm.exN mv ac L0 m).1.length)
  ⟨iw,.slice none 0 0,.slice none 0 0,fw,m,I,by simp,?_,hm,hL0.symm,hP0,by omega,fun m hm=>absurd hm (Nat.not_lt_zero m)⟩ ?_
 ·exact ((H.nil_ow (α:=Tr)).bk5.nil_ow (α:=Bool)).bk5
 clear H hm m fw iw
 rintro J i _ h6 hJ hi1 ⟨iw,aw,ew,fw,m,F,rfl,H,hm,hF,hPF,hi64,hall⟩
 have hFl:F.length=(Fm.exN mv ac L0 i).1.length:=by rw[← hF]; simp
 have hb1:=hbd i
 have hb2:i*K≤64*8388608:=Nat.mul_le_mul hi64 hK
 have hal:=Fm.exN_al (mv:=mv) (ac:=ac) (L0:=L0) i hall
 have H:HS g (bx b6 [.map (some bm)]::bx b7 [fw]::mpo pv3 vi bm m::ow fw F::[ow iw (Fm.upto I.length),ow aw (Fm.exN mv ac L0 i).2.1,ow ew (Fm.exN mv ac L0 i).2.2]) h6:=H
 have hew:=H.sw6.rep.lt
 by_cases q2:i<F.length
 case neg=>
  have hend:Fm.exN mv ac L0 64=Fm.exN mv ac L0 i:=Fm.exOk_end hi64 (by omega)
  have hA:Fm.exA mv ac L0=⟨Fm.upto I.length,(Fm.exN mv ac L0 i).2.1,(Fm.exN mv ac L0 i).2.2⟩:=by rw[Fm.exA,if_neg hL0n,hend,hLI]
  have hOk:(Fm.exA mv ac L0).Ok↔Fm.exOk mv ac L0:=by
   constructor
   ·intro h
    have:=h.2.1
    rw[hA] at this
    exact⟨by rw[hend]; omega,by rw[hend]; exact this⟩
   ·rintro⟨h1,h2⟩
    refine Fm.exA_ok h1 h2 fun x hx m hm=>?_
    obtain⟨p,hp,rfl⟩:=Fm.exN_all hQ0 hQs 64 x hx
    exact hmo p hp m hm
  have hexR:Fm.exOk mv ac L0→Fm.exR mv ac L0=Fm.exA mv ac L0:=fun h=>by rw[Fm.exR,if_pos h]
  have O1:=H.sw4.rep.one
  have O2:=H.sw5.rep.one
  have O3:=H.sw6.rep.one
  have hbf:=H.sw1.bxld0
  have hfl:=H.sw3.rep.len
  have H:=HS.mkAut (a:=⟨Fm.upto I.length,(Fm.exN mv ac L0 i).2.1,(Fm.exN mv ac L0 i).2.2⟩) H.drop.drop.drop.drop
  rw[← hA] at H
  have FA:=H.rep.aAut
  simp -implicitDefEqProofs (disch:=first|omega|(simp only[LnZ];omega))[wrap64,hbf,hfl,q2,O1,O2,O3,setC]
  refine (c_AutomatonValid H.rep).go ?_
  rintro _ h7 ⟨l7,rfl⟩
  have H:=H.le l7
  by_cases q5:Fm.exOk mv ac L0
  ·have q6:=hOk.2 q5
   have hOk3:=q6.2.1
   have hOk4:=q6.1
   simp -implicitDefEqProofs (disch:=first|omega|(simp only[LnZ];omega))[wrap64,q6,FA]
   refine (c_copyOf H.rep (by rw[hA]; simp[Fm.upto]; omega) (by omega) (by omega)).go ?_
   intro w h8 G
   have FW:=G.rep.aAut
   simp -implicitDefEqProofs (disch:=first|omega|(simp only[LnZ];omega))[wrap64,FW,setC]
   refine RetK.keep (hk _ _ ⟨w,by rw[decide_eq_true q5],?_⟩)
   rw[hexR q5]
   exact (G.app H).sw1.drop
  ·have q6:¬_:=fun hh=>q5 (hOk.1 hh)
   simp -implicitDefEqProofs (disch:=first|omega|(simp only[LnZ];omega))[wrap64,q6,setC]
   exact RetK.keep (hbad H.base q5)
 have hnn:(Fm.exN mv ac L0 i).1[i]? = some (lf3 F[i]):=by rw[← hF]; simp[q2]
 have hsu:=Fm.exN_succ hnn
 have hPi:=hPF _ (List.getElem_mem q2)
 by_cases q3:i=64
 ·have hok:=Fm.exOk_big (mv:=mv) (ac:=ac) (L0:=L0) hi64 (.inl ⟨q3,by omega⟩)
  have q3i:(i:Int)=64:=by omega
  simp -implicitDefEqProofs (disch:=first|omega|(simp only[LnZ];omega))[wrap64,H.sw1.bxld0,H.sw3.rep.len,q2,q3i,show (64:Int)<F.length by omega,H.sw4.rep.one,H.sw5.rep.one,H.sw6.rep.one,setC]
  exact RetK.keep (hbad H.base hok)
 by_cases q4:2048<(Fm.exN mv ac L0 i).2.2.length
 ·have hok:=Fm.exOk_big (mv:=mv) (ac:=ac) (L0:=L0) hi64 (.inr q4)
  have q3i:¬(i:Int)=64:=by omega
  have q4i:(2048:Int)<(Fm.exN mv ac L0 i).2.2.length:=by omega
  simp -implicitDefEqProofs (disch:=first|omega|(simp only[LnZ];omega))[wrap64,H.sw1.bxld0,H.sw3.rep.len,q2,q3i,q4i,H.sw4.rep.one,H.sw5.rep.one,H.sw6.rep.one,H.sw6.rep.len,setC]
  exact RetK.keep (hbad H.base hok)
 have q3i:¬(i:Int)=64:=by omega
 have q4i:¬(2048:Int)<(Fm.exN mv ac L0 i).2.2.length:=by omega
 obtain⟨L,hL⟩:∃L,L=(Fm.exN mv ac L0 i).1:=⟨_,rfl⟩
 obtain⟨A,hAA⟩:∃A,A=(Fm.exN mv ac L0 i).2.1:=⟨_,rfl⟩
 obtain⟨E,hE⟩:∃E,E=(Fm.exN mv ac L0 i).2.2:=⟨_,rfl⟩
 rw[← hL] at hF hFl hb1 hsu hnn
 rw[← hAA] at H hal hsu
 rw[← hE] at H hew hsu q4 q4i
 obtain⟨p,hp⟩:∃p,p=F[i]:=⟨_,rfl⟩
 rw[← hp] at hPi hsu hnn
 have hu:hload h6 (some (elp 3 fw i)) (some 3)=some (pv3 p):=by rw[hp]; exact H.sw3.rep.ldF q2
 simp -implicitDefEqProofs (disch:=first|omega|(simp only[LnZ];omega))[wrap64,H.sw1.bxld0,H.sw3.rep.len,q2,q3i,q4i,H.sw4.rep.one,H.sw5.rep.one,H.sw6.rep.one,H.sw6.rep.len,H.sw3.rep.X (n:=3) rfl,hu,hfa,setC]
 refine (hA p h6 hPi H.base).go ?_
 rintro _ h7 ⟨l7,rfl⟩
 have H:=H.le l7
 have hu:=hload_le l7 hu
 simp -implicitDefEqProofs (disch:=first|omega|(simp only[LnZ];omega))[wrap64,setC]
 refine HS.app1 (bytes:=1) H.sw5 (ac (lf3 p)) rfl rfl rfl trivial rfl rfl (by omega) (by omega) fun aw' h8 H=>?_
 have hu:hload h8 (some (elp 3 fw i)) (some 3)=some (pv3 p):=by rw[hp]; exact H.sw4.rep.ldF q2
 simp -implicitDefEqProofs (disch:=first|omega|(simp only[LnZ];omega))[wrap64,setC,H.rep.cells,H.rep.one,H.sw2.bxld0,H.sw4.rep.X (n:=3) rfl,hu,hfm]
 refine (hM p h8 hPi H.base).go ?_
 intro mw h9 G
 have H:=(G.app H.bk5).bk6
 obtain⟨hM1,hM2,hM3⟩:=hMf p hPi
 obtain⟨M,hMd⟩:∃M,M=mv (lf3 p):=⟨_,rfl⟩
 rw[← hMd] at hsu hM1
 have hMl:M.length=(Mf p).length:=by rw[← hM1]; simp
 have H:HS g (Tbs3 b6 b7 bm fw F m++[ow iw (Fm.upto I.length),ow aw' (A++[ac (lf3 p)]),ow mw (Mf p),ow ew E]) h9:=H
 simp -implicitDefEqProofs (disch:=first|omega|(simp only[LnZ];omega))[wrap64,G.rep.len]
 refine wp_count (Mf p).length (fun j e h'=>∃(ew fw:Value) (m:List ((Int×Int×Int)×Int)) (F:List (Int×Int×Int)),e=[none,some fa,some fm,some (.agg #[.slice none 0 0,.slice none 0 0,.slice none 0 0]),none,some (.agg #[iw,aw',ew]),none,some (.pointer (some ⟨b7,0,none⟩)),some fv,none,some (.int .i64 i),none,none,none,none,some mw,some (.int .i64 (Mf p).length),some (.int .i64 j)] ∧
  HS g (Tbs3 b6 b7 bm fw F m++[ow iw (Fm.upto I.length),ow aw' (A++[ac (lf3 p)]),ow mw (Mf p),ow ew (Fm.exRow i (M.take j) (L,E)).2]) h'∧MI F m∧F.map lf3=(Fm.exRow i (M.take j) (L,E)).1∧∀x∈F,P x)
  ⟨ew,fw,m,F,by simp,H,hm,hF,hPF⟩ ?_
 clear H hm hF hPF hu hFl hew G
 rintro J2 j _ h10 hJ2 hj ⟨ew,fw,m,F,rfl,H,hm,hF,hPF⟩
 simp -implicitDefEqProofs (disch:=first|omega|(simp only[LnZ];omega))[wrap64]
 refine IteW.mk (fun hlt=>?_) (fun hge=>?_)
 ·have hjx:j<(Mf p).length:=by omega
  have hjM:j<M.length:=by omega
  have hst:=Fm.exRow_take (i:=i) (q:=(L,E)) hjM
  have hel:=(Fm.exRow_er (i:=i) (M.take j) (L,E)).el
  have hll:=Fm.exRow_len (i:=i) (M.take j) (L,E)
  simp only[List.length_take] at hel hll
  have hFl:F.length=(Fm.exRow i (M.take j) (L,E)).1.length:=by rw[← hF]; simp
  have hPq:=hM3 _ (List.getElem_mem hjx)
  have hMj:M[j]=toMv3 (Mf p)[j]:=by simp only[← hM1,List.getElem_map]
  have H:HS g (bx b6 [.map (some bm)]::bx b7 [fw]::mpo pv3 vi bm m::ow fw F::[ow iw (Fm.upto I.length),ow aw' (A++[ac (lf3 p)]),ow mw (Mf p),ow ew (Fm.exRow i (M.take j) (L,E)).2]) h10:=H
  have hok:=H.sw6.rep.okF hjx
  have hu:=H.sw6.rep.ldF hjx
  have hX:=H.sw6.rep.X (n:=5) rfl
  rw[hMj] at hst
  obtain⟨q,hq⟩:∃q,q=(Mf p)[j]:=⟨_,rfl⟩
  rw[← hq] at hst hPq hok hu
  change hload _ (some (elp 5 mw j)) (some 5)=some (.agg #[.int .i64 q.1,.int .i64 q.2.1,.int .i64 q.2.2.1,.int .i64 q.2.2.2.1,.int .i64 q.2.2.2.2]) at hu
  have hok:I64 q.1∧I64 q.2.1∧I64 q.2.2.1∧I64 q.2.2.2.1∧I64 q.2.2.2.2:=hok
  have hat:=atK_map lf3_inj F q.2.2
  rw[hF] at hat
  have hbn:=atK_bnd (F:=F) (a:=q.2.2)
  generalize Fm.exRow i (M.take j) (L,E)=Q at *
  simp -implicitDefEqProofs (disch:=first|omega|(simp only[LnZ];omega))[wrap64,hX,hu,setC,hfn]
  refine (c_find3 (a:=q.2.2) (Γ:=[ow iw (Fm.upto I.length),ow aw' (A++[ac (lf3 p)]),ow mw (Mf p),ow ew Q.2]) H hm (by omega) (hPok _ hPq)).go ?_
  rintro _ h11 ⟨fw',m',rfl,H,hm⟩
  have H:HS g (bx b6 [.map (some bm)]::bx b7 [fw']::mpo pv3 vi bm m'::ow fw' (adK F q.2.2)::[ow iw (Fm.upto I.length),ow aw' (A++[ac (lf3 p)]),ow mw (Mf p),ow ew Q.2]) h11:=H
  simp -implicitDefEqProofs (disch:=first|omega|(simp only[LnZ];omega))[wrap64,setC]
  refine HS.app1 (bytes:=32) H.sw7 (⟨(i:Int),q.1,q.2.1,atK F q.2.2⟩:Tr) rfl rfl rfl (Tr.ok_iff.2 ⟨⟨by simp only; omega,by simp only; omega⟩,hok.1,hok.2.1,⟨by simp only; omega,by simp only; omega⟩⟩) rfl rfl (by omega) (by omega) fun ew' h12 H=>?_
  simp -implicitDefEqProofs (disch:=first|omega|(simp only[LnZ];omega))[wrap64,setC,H.rep.cells,H.rep.one]
  refine hJ2 _ _ hjx ⟨ew',fw',m',adK F q.2.2,by simp,?_,hm,by rw[hst,hat.2]; rfl,adK_all hPF hPq⟩
  rw[hst]
  have:Q.2++[(⟨(i:Int),q.1,q.2.1,atK F q.2.2⟩:Tr)]=(Fm.adL Q.1 (toMv3 q).to,Q.2++[⟨(i:Int),(toMv3 q).care,(toMv3 q).value,Fm.atL Q.1 (toMv3 q).to⟩]).2:=by rw[hat.1]; rfl
  rw[← this]
  exact H.sw7.sw7.sw7.sw7.sw7.sw7.sw7
 simp -implicitDefEqProofs (disch:=first|omega|(simp only[LnZ];omega))[wrap64]
 have hsuL:(Fm.exN mv ac L0 (i+1)).2.1=A++[ac (lf3 p)]:=by rw[hsu]
 rw[List.take_of_length_le (by omega)] at H hF
 refine hJ _ _ (by omega) ⟨iw,aw',ew,fw,m,F,by simp,?_,hm,by rw[hF,hsu],hPF,by omega,fun n hn=>?_⟩
 ·rw[hsu]
  have H:HS g (bx b6 [.map (some bm)]::bx b7 [fw]::mpo pv3 vi bm m::ow fw F::[ow iw (Fm.upto I.length),ow aw' (A++[ac (lf3 p)]),ow mw (Mf p),ow ew (Fm.exRow i M (L,E)).2]) h10:=H
  exact H.under fun _ H=>H.under fun _ H=>H.under fun _ H=>H.under fun _ H=>H.under fun _ H=>H.under fun _ H=>H.drop
 ·by_cases e:n=i
  ·subst e
   have:=(List.getElem?_eq_some_iff.1 hnn).1
   rw[hL] at this
   exact this
  ·exact hall n (by omega)
end Go.Proofs.YtbanccfdojgocaaGreat

namespace Go.Proofs.YtbanccfdojgocaaGreat
open Go
theorem i64_xor {a b:Nat}(ha:a<4611686018427387904) (hb:b<4611686018427387904):xorI .i64 (a:Int) (b:Int)=((a ^^^ b:Nat):Int):=by
 unfold xorI
 rw[show IntKind.i64.bits=64 from rfl,BitVec.toNat_xor,bv_nat (by omega),bv_nat (by omega)]
 have:a ^^^ b<2 ^ 62:=Nat.xor_lt_two_pow (by omega) (by omega)
 exact wrap64 (by omega) (by omega)
namespace Fm
def imv (a b:Aut) (s:List Int) (e f:Tr):Int×Int×Int×Int×Int:=(((e.care.toNat ||| f.care.toNat:Nat):Int),((e.value.toNat ||| f.value.toNat:Nat):Int),e.to,f.to,pph a b s)
def ifit (s:List Int) (e f:Tr):Bool:=decide (e.frm=s.getD 0 0∧f.frm=s.getD 1 0)&&fits e f
def irow (a b:Aut) (s:List Int) (e:Tr) (m:Nat):List (Int×Int×Int×Int×Int):=((b.edges.take m).filter (ifit s e)).map (imv a b s e)
def iall (a b:Aut) (s:List Int) (n:Nat):List (Int×Int×Int×Int×Int):=(a.edges.take n).flatMap fun e=>irow a b s e b.edges.length
section
variable {a b:Aut}{s:List Int}{e:Tr}{n m:Nat}
theorem irow_succ (hm:m<b.edges.length):irow a b s e (m+1)=irow a b s e m++if ifit s e b.edges[m] then [imv a b s e b.edges[m]] else []:=by
 unfold irow
 rw[List.take_add_one,List.getElem?_eq_getElem hm,List.filter_append,List.map_append]
 cases h:ifit s e b.edges[m] <;> simp[h]
theorem iall_succ (hn:n<a.edges.length):iall a b s (n+1)=iall a b s n++irow a b s a.edges[n] b.edges.length:=by
 unfold iall
 rw[List.take_add_one,List.getElem?_eq_getElem hn,List.flatMap_append]
 simp
theorem irow_len:(irow a b s e m).length≤m:=by
 unfold irow
 rw[List.length_map]
 have:=List.length_filter_le (ifit s e) (b.edges.take m)
 rw[List.length_take] at this
 omega
theorem iall_len:∀n,n≤a.edges.length→(iall a b s n).length≤n*b.edges.length
 | 0,_=>by simp[iall]
 | n+1,h=>by
  have ih:=iall_len n (by omega)
  have:=irow_len (a:=a) (b:=b) (s:=s) (e:=a.edges[n]) (m:=b.edges.length)
  rw[iall_succ (by omega),List.length_append,Nat.add_mul]
  omega
theorem iall_prM:(iall a b s a.edges.length).map toMv3=prM a b s:=by
 unfold iall prM irow
 simp only[List.take_length,List.map_flatMap,List.map_map]
 rfl
theorem iall_mem {q:Int×Int×Int×Int×Int}(h:q∈iall a b s a.edges.length):∃e∈a.edges,∃f∈b.edges,q=imv a b s e f:=by
 unfold iall irow at h
 rw[List.take_length,List.take_length] at h
 obtain⟨e,he,h⟩:=List.mem_flatMap.1 h
 obtain⟨f,hf,h⟩:=List.mem_map.1 h
 exact⟨e,he,f,(List.mem_filter.1 hf).1,h.symm⟩
end
end Fm
section
variable {h:Heap}{a b:Aut}{bA bB:Nat}{av2 av3 bv2 bv3:Value}{x y:Nat}{p:Int}
theorem c_inter_2 (hB1:hload h (some (.pointer (some ⟨bB,1,none⟩))) none=some bv2) (R2:Rep h bv2 b.acc) (hy:y<b.acc.length):CallE Tryz.prog fn_impl_IntersectAutomata_2 [pv3 (x,y,p),.pointer (some ⟨bB,0,none⟩)] h (fun u h'=>h.le h'∧u=.bool (Fm.prC b (lf3 (x,y,p)))):=by
 have hpc:Fm.prC b (lf3 ((x:Int),(y:Int),p))=(decide (p=1)&&b.acc[y]):=by
  unfold Fm.prC lf3
  simp[hy]
 refine CallE.gen fun k hk=>EN_impl_IntersectAutomata_2 rfl ?_
 rw[hpc] at hk
 by_cases e:p=1
 ·simp -implicitDefEqProofs (disch:=first|omega|(simp only[LnZ];omega))[wrap64,pv3,setC,e,hB1,R2.B]
  exact RetK.keep (hk _ _ ⟨Heap.le.refl _,by simp[e]⟩)
 ·simp -implicitDefEqProofs (disch:=first|omega|(simp only[LnZ];omega))[wrap64,pv3,setC,e]
  exact RetK.keep (hk _ _ ⟨Heap.le.refl _,by simp[e]⟩)
theorem c_inter_1 (ha:a.Ok) (hb:b.Ok) (hA1:hload h (some (.pointer (some ⟨bA,1,none⟩))) none=some av2) (hA2:hload h (some (.pointer (some ⟨bA,2,none⟩))) none=some av3) (hB1:hload h (some (.pointer (some ⟨bB,1,none⟩))) none=some bv2) (hB2:hload h (some (.pointer (some ⟨bB,2,none⟩))) none=some bv3)
  (RA2:Rep h av2 a.acc) (RA3:Rep h av3 a.edges) (RB2:Rep h bv2 b.acc) (RB3:Rep h bv3 b.edges) (hx:x<a.acc.length) (hy:y<b.acc.length) (hp:p=0∨p=1) :
  CallE Tryz.prog fn_impl_IntersectAutomata_1 [pv3 (x,y,p),.pointer (some ⟨bA,0,none⟩),.pointer (some ⟨bB,0,none⟩)] h (fun u h'=>HS h [ow u (Fm.iall a b (lf3 (x,y,p)) a.edges.length)] h'):=by
 have hal:=ha.2.1
 have hbl:=hb.2.1
 obtain⟨s,hs⟩:∃s,s=lf3 ((x:Int),(y:Int),p):=⟨_,rfl⟩
 have s0:s.getD 0 0=x:=by rw[hs]; rfl
 have s1:s.getD 1 0=y:=by rw[hs]; rfl
 have hph:Fm.pph a b s=if p=0 then (if a.acc[x]=true then 1 else 0) else (if b.acc[y]=true then 0 else 1):=by
  rw[hs]
  unfold Fm.pph lf3 Go.Proofs.YtbanccfdojgocaaGreat.tru
  simp[hx,hy]
 rw[← hs]
 refine CallE.gen fun k hk=>EN_impl_IntersectAutomata_1 rfl ?_
 obtain⟨ph,hphd⟩:∃ph,ph=Fm.pph a b s:=⟨_,rfl⟩
 have hph64:I64 ph:=by
  rw[hphd,hph]
  split <;> split <;> exact⟨by omega,by omega⟩
 have main:∀{q4 q6 q7 q8 q9 q10 q11 q12 q13 q14:Option Value},K80_18.wp Tryz.prog (retQ [(4,none)] k) [none,some (.pointer (some ⟨bA,0,none⟩)),some (.pointer (some ⟨bB,0,none⟩)),some (.agg #[.int .i64 x,.int .i64 y,.int .i64 p]),q4,some (.int .i64 ph),q6,q7,q8,q9,q10,q11,q12,q13,q14] h:=by
  intro q4 q6 q7 q8 q9 q10 q11 q12 q13 q14
  simp -implicitDefEqProofs (disch:=first|omega|(simp only[LnZ];omega))[wrap64,hA2,RA3.len]
  refine wp_count a.edges.length (fun i e h'=>∃o,e=[none,none,some (.pointer (some ⟨bB,0,none⟩)),some (.agg #[.int .i64 x,.int .i64 y,.int .i64 p]),none,some (.int .i64 ph),some o,none,none,some av3,some (.int .i64 a.edges.length),some (.int .i64 i),none,none,none]∧HS h [ow o (Fm.iall a b s i)] h') ⟨.slice none 0 0,by simp,HS.init.nil_ow⟩ ?_
  rintro J i _ h1 hJ hi ⟨o,rfl,H⟩
  simp -implicitDefEqProofs (disch:=first|omega|(simp only[LnZ];omega))[wrap64]
  refine IteW.mk (fun hlt=>?_) (fun hge=>?_)
  ·have hix:i<a.edges.length:=by omega
   have hxA:=(RA3.on H).xTr
   have hll:=Fm.iall_len (a:=a) (b:=b) (s:=s) i hi
   have hsuc:=Fm.iall_succ (a:=a) (b:=b) (s:=s) hix
   have hmul:i*b.edges.length≤2048*2048:=Nat.mul_le_mul (by omega) hbl
   obtain⟨e,he⟩:∃e,e=a.edges[i]:=⟨_,rfl⟩
   obtain⟨c1,v1,e1,e2,e3,e4,e5⟩:=Fm.Tr.nats2 (ha.2.2.2 _ (List.getElem_mem hix))
   have hokA:=RA3.okTr hix
   rw[← he] at hsuc e1 e2 hokA
   simp -implicitDefEqProofs (disch:=first|omega|(simp only[LnZ];omega))[wrap64,hxA,← he,Tr.v,setC,hload_le H.base hB2,(RB3.on H).len]
   refine wp_count b.edges.length (fun j e' h'=>∃o,e'=[none,none,some (.pointer (some ⟨bB,0,none⟩)),some (.agg #[.int .i64 x,.int .i64 y,.int .i64 p]),none,some (.int .i64 ph),some o,some (.agg #[.int .i64 e.frm,.int .i64 e.care,.int .i64 e.value,.int .i64 e.to]),none,some av3,some (.int .i64 a.edges.length),some (.int .i64 i),some bv3,some (.int .i64 b.edges.length),some (.int .i64 j)] ∧
    HS h [ow o (Fm.iall a b s i++Fm.irow a b s e j)] h') ⟨o,by simp,by simpa[Fm.irow] using H⟩ ?_
   clear H
   rintro J2 j _ h2 hJ2 hj ⟨o,rfl,H⟩
   simp -implicitDefEqProofs (disch:=first|omega|(simp only[LnZ];omega))[wrap64]
   refine IteW.mk (fun hlt2=>?_) (fun hge2=>?_)
   ·have hjx:j<b.edges.length:=by omega
    have hxB:=(RB3.on H).xTr
    have hrl:=Fm.irow_len (a:=a) (b:=b) (s:=s) (e:=e) (m:=j)
    have hrs:=Fm.irow_succ (a:=a) (b:=b) (s:=s) (e:=e) hjx
    obtain⟨f,hf⟩:∃f,f=b.edges[j]:=⟨_,rfl⟩
    obtain⟨c2,v2,f1,f2,f3,f4,f5⟩:=Fm.Tr.nats2 (hb.2.2.2 _ (List.getElem_mem hjx))
    have hokB:=RB3.okTr hjx
    rw[← hf] at hrs f1 f2 hokB
    have hfd:Fm.ifit s e f=(decide (e.frm=x∧f.frm=y)&&decide ((v1 ^^^ v2) &&& c1 &&& c2=0)):=by
     unfold Fm.ifit Fm.fits
     rw[s0,s1,e1,e2,f1,f2]
     simp only[Int.toNat_natCast]
    have him:Fm.imv a b s e f=(((c1 ||| c2:Nat):Int),((v1 ||| v2:Nat):Int),e.to,f.to,ph):=by
     unfold Fm.imv
     rw[e1,e2,f1,f2,hphd]
     simp only[Int.toNat_natCast]
    have hno:Fm.ifit s e f=false→J2 [none,none,some (.pointer (some ⟨bB,0,none⟩)),some (.agg #[.int .i64 x,.int .i64 y,.int .i64 p]),none,some (.int .i64 ph),some o,some (.agg #[.int .i64 e.frm,.int .i64 e.care,.int .i64 e.value,.int .i64 e.to]),none,some av3,some (.int .i64 a.edges.length),some (.int .i64 i),some bv3,some (.int .i64 b.edges.length),some (.int .i64 ((j+1:Nat):Int))] h2:=fun e0=>hJ2 _ _ hjx ⟨o,rfl,by rw[hrs,e0]; simpa using H⟩
    have hx8:v1 ^^^ v2<8:=Nat.xor_lt_two_pow (n:=3) e4 f4
    have hxa:(v1 ^^^ v2) &&& c1≤v1 ^^^ v2:=Nat.and_le_left
    have g1:=i64_xor (a:=v1) (b:=v2) (by omega) (by omega)
    have g2:=i64_and (a:=v1 ^^^ v2) (b:=c1) (by omega) (by omega)
    have g3:=i64_and (a:=(v1 ^^^ v2) &&& c1) (b:=c2) (by omega) (by omega)
    have g4:=i64_or (a:=c1) (b:=c2) (by omega) (by omega)
    have g5:=i64_or (a:=v1) (b:=v2) (by omega) (by omega)
    have o8:=Fm.or8 e3 f3
    have o9:=Fm.or8 e4 f4
    by_cases q1:e.frm=x
    case neg=>
     simp -implicitDefEqProofs (disch:=first|omega|(simp only[LnZ];omega))[wrap64,hxB,← hf,Tr.v,setC,q1]
     simpa using hno (by rw[hfd]; simp[q1])
    by_cases q2:f.frm=y
    case neg=>
     simp -implicitDefEqProofs (disch:=first|omega|(simp only[LnZ];omega))[wrap64,hxB,← hf,Tr.v,setC,q1,q2]
     simpa[q1] using hno (by rw[hfd]; simp[q2])
    by_cases q3:(v1 ^^^ v2) &&& c1 &&& c2=0
    case neg=>
     have q3i:¬(((v1 ^^^ v2) &&& c1 &&& c2:Nat):Int)=0:=by omega
     simp -implicitDefEqProofs (disch:=first|omega|(simp only[LnZ];omega))[wrap64,hxB,← hf,Tr.v,setC,q1,q2,e1,e2,f1,f2,g1,g2,g3,q3,q3i]
     simpa[q1,e1,e2] using hno (by rw[hfd]; simp[q3])
    have hyes:Fm.ifit s e f=true:=by rw[hfd]; simp[q1,q2,q3]
    have q3i:(((v1 ^^^ v2) &&& c1 &&& c2:Nat):Int)=0:=by omega
    have hokm:I64 ((c1 ||| c2:Nat):Int)∧I64 ((v1 ||| v2:Nat):Int)∧I64 e.to∧I64 f.to∧I64 ph:=⟨⟨by omega,by omega⟩,⟨by omega,by omega⟩,hokA.to,hokB.to,hph64⟩
    rw[hyes,if_pos rfl,him] at hrs
    have hlen2:(Fm.iall a b s i++Fm.irow a b s e j).length≤8388608:=by rw[List.length_append]; omega
    simp -implicitDefEqProofs (disch:=first|omega|(simp only[LnZ];omega))[wrap64,hxB,← hf,Tr.v,setC,q1,q2,e1,e2,f1,f2,g1,g2,g3,g4,g5,q3i]
    refine HS.app1 (bytes:=40) H (((c1 ||| c2:Nat):Int),((v1 ||| v2:Nat):Int),e.to,f.to,ph) rfl rfl rfl hokm rfl rfl (by omega) (by omega) fun o' h3 H=>?_
    simp -implicitDefEqProofs (disch:=first|omega|(simp only[LnZ];omega))[wrap64]
    have:=hJ2 _ h3 hjx ⟨o',rfl,by rw[hrs,← List.append_assoc]; exact H⟩
    simpa[q1,e1,e2] using this
   ·obtain rfl:j=b.edges.length:=by omega
    simp -implicitDefEqProofs (disch:=first|omega|(simp only[LnZ];omega))[wrap64]
    exact hJ _ _ hix ⟨o,by simp,by rw[hsuc]; exact H⟩
  ·obtain rfl:i=a.edges.length:=by omega
   simp -implicitDefEqProofs (disch:=first|omega|(simp only[LnZ];omega))[wrap64]
   exact RetK.keep (hk _ _ H)
 have M:=fun q4 q6 q7 q8 q9 q10 q11 q12 q13 q14=>main (q4:=q4) (q6:=q6) (q7:=q7) (q8:=q8) (q9:=q9) (q10:=q10) (q11:=q11) (q12:=q12) (q13:=q13) (q14:=q14)
 rw[hph] at hphd
 rcases hp with rfl | rfl
 ·rw[if_pos rfl] at hphd
  cases hc:a.acc[x] with
  | true=>
   rw[hc,if_pos rfl] at hphd
   subst hphd
   simp -implicitDefEqProofs (disch:=first|omega|(simp only[LnZ];omega))[wrap64] at M
   simp -implicitDefEqProofs (disch:=first|omega|(simp only[LnZ];omega))[wrap64,pv3,setC,hA1,RA2.B,hc]
   exact M _ _ _ _ _ _ _ _ _
  | false=>
   rw[hc,if_neg (by decide)] at hphd
   subst hphd
   simp -implicitDefEqProofs (disch:=first|omega|(simp only[LnZ];omega))[wrap64] at M
   simp -implicitDefEqProofs (disch:=first|omega|(simp only[LnZ];omega))[wrap64,pv3,setC,hA1,RA2.B,hc]
   exact M _ _ _ _ _ _ _ _ _
 ·rw[if_neg (by decide)] at hphd
  cases hc:b.acc[y] with
  | true=>
   rw[hc,if_pos rfl] at hphd
   subst hphd
   simp -implicitDefEqProofs (disch:=first|omega|(simp only[LnZ];omega))[wrap64] at M
   simp -implicitDefEqProofs (disch:=first|omega|(simp only[LnZ];omega))[wrap64,pv3,setC,hB1,RB2.B,hc]
   exact M _ _ _ _ _ _ _ _ _
  | false=>
   rw[hc,if_neg (by decide)] at hphd
   subst hphd
   simp -implicitDefEqProofs (disch:=first|omega|(simp only[LnZ];omega))[wrap64] at M
   simp -implicitDefEqProofs (disch:=first|omega|(simp only[LnZ];omega))[wrap64,pv3,setC,hB1,RB2.B,hc]
   exact M _ _ _ _ _ _ _ _ _
end
namespace Fm
def ini3 (a b:Aut) (n:Nat):List (Int×Int×Int):=(a.init.take n).flatMap fun p=>b.init.map fun q=>(p,q,0)
theorem ini3_succ {a b:Aut}{n:Nat}(hn:n<a.init.length):ini3 a b (n+1)=ini3 a b n++b.init.map fun q=>(a.init[n],q,0):=by
 unfold ini3
 rw[List.take_add_one,List.getElem?_eq_getElem hn,List.flatMap_append]
 simp
theorem ini3_len {a b:Aut}:∀n,n≤a.init.length→(ini3 a b n).length≤n*b.init.length
 | 0,_=>by simp[ini3]
 | n+1,h=>by
  have ih:=ini3_len (a:=a) (b:=b) n (by omega)
  rw[ini3_succ (a:=a) (b:=b) (n:=n) (by omega),List.length_append,List.length_map,Nat.add_mul]
  omega
theorem ini3_map {a b:Aut}:(ini3 a b a.init.length).map lf3=prI a b:=by
 unfold ini3 prI
 rw[List.take_length,List.map_flatMap]
 simp only[List.map_map]
 rfl
theorem ini3_mem {a b:Aut}{n:Nat}{p:Int×Int×Int}(h:p∈ini3 a b n):p.1∈a.init∧p.2.1∈b.init∧p.2.2=0:=by
 unfold ini3 at h
 obtain⟨x,hx,h⟩:=List.mem_flatMap.1 h
 obtain⟨y,hy,rfl⟩:=List.mem_map.1 h
 exact⟨List.mem_of_mem_take hx,hy,rfl⟩
theorem prs_nodup {l m:List Int}(hl:l.Nodup) (hm:m.Nodup):(l.flatMap fun p=>m.map fun q=>(p,q,(0:Int))).Nodup:=by
 induction l with
 | nil=>simp
 | cons x l ih=>
  rw[List.nodup_cons] at hl
  rw[List.flatMap_cons,List.nodup_append]
  refine⟨?_,ih hl.2,fun p hp q hq=>?_⟩
  ·rw[List.nodup_iff_pairwise_ne,List.pairwise_map]
   exact hm.imp fun h e=>h (by simpa using e)
  ·obtain⟨y,_,rfl⟩:=List.mem_map.1 hp
   obtain⟨x',hx',hq⟩:=List.mem_flatMap.1 hq
   obtain⟨y',_,rfl⟩:=List.mem_map.1 hq
   intro e
   simp only[Prod.mk.injEq] at e
   exact hl.1 (e.1 ▸ hx')
def inOk (a b:Aut):Prop:=a.Ok∧b.Ok∧exOk (prM a b) (prC b) (prI a b)
noncomputable instance {a b:Aut}:Decidable (inOk a b):=Classical.propDecidable _
noncomputable def inR (a b:Aut):Aut:=if inOk a b then prA a b else ⟨[],[],[]⟩
end Fm
theorem incr_nodup {n:Int}{l:List Int}(h:incr n (-1) l):l.Nodup:=by
 rw[List.nodup_iff_pairwise_ne]
 exact (incr_iff.1 h).1.imp fun h=>by omega
set_option maxHeartbeats 1000000 in
theorem c_IntersectAutomata {h:Heap}{v w:Value}{a b:Aut}(Ra:Rep h v a) (Rb:Rep h w b):CallE Tryz.prog fn_impl_IntersectAutomata [v,w] h (fun u h'=>∃wv,u=.tuple #[wv,.bool (decide (Fm.inOk a b))]∧HS h [ow wv (Fm.inR a b)] h'):=by
 have FA:=Ra.aAut
 have FB:=Rb.aAut
 have hno:∀{h'},h.le h'→¬Fm.inOk a b→HS h [ow (.agg #[.slice none 0 0,.slice none 0 0,.slice none 0 0]) (Fm.inR a b)] h':=fun hl hn=>by
  rw[Fm.inR,if_neg hn]
  exact HS.mkAut (a:=⟨[],[],[]⟩) (HS.nil_ow (Γ:=[]) hl).nil_ow.nil_ow
 obtain⟨a1,a2,a3,rfl,RA1,RA2,RA3⟩:=Rep_Aut.1 Ra
 obtain⟨b1,b2,b3,rfl,RB1,RB2,RB3⟩:=Rep_Aut.1 Rb
 refine CallE.gen fun k hk=>EN_impl_IntersectAutomata rfl ?_
 simp -implicitDefEqProofs (disch:=first|omega|(simp only[LnZ];omega))[wrap64]
 refine HS.init.alloc rfl fun bA h1 H=>?_
 simp -implicitDefEqProofs (disch:=first|omega|(simp only[LnZ];omega))[wrap64]
 refine H.alloc rfl fun bB h2 H=>?_
 have H:HS h [bx bB [b1,b2,b3],bx bA [a1,a2,a3]] h2:=H
 have hA:hload h2 (some (.pointer (some ⟨bA,0,none⟩))) (some 3)=some (.agg #[a1,a2,a3]):=by
  have:=H.sw1.bxlds (o:=0) (n:=3) (by simp)
  simpa using this
 have hB:hload h2 (some (.pointer (some ⟨bB,0,none⟩))) (some 3)=some (.agg #[b1,b2,b3]):=by
  have:=H.bxlds (o:=0) (n:=3) (by simp)
  simpa using this
 have hA0:hload h2 (some (.pointer (some ⟨bA,0,none⟩))) none=some a1:=H.sw1.bxld (o:=0) rfl
 have hA1:hload h2 (some (.pointer (some ⟨bA,1,none⟩))) none=some a2:=H.sw1.bxld (o:=1) rfl
 have hA2:hload h2 (some (.pointer (some ⟨bA,2,none⟩))) none=some a3:=H.sw1.bxld (o:=2) rfl
 have hB0:hload h2 (some (.pointer (some ⟨bB,0,none⟩))) none=some b1:=H.bxld (o:=0) rfl
 have hB1:hload h2 (some (.pointer (some ⟨bB,1,none⟩))) none=some b2:=H.bxld (o:=1) rfl
 have hB2:hload h2 (some (.pointer (some ⟨bB,2,none⟩))) none=some b3:=H.bxld (o:=2) rfl
 have lb:=H.base
 clear H
 simp -implicitDefEqProofs (disch:=first|omega|(simp only[LnZ];omega))[wrap64,hA,FA]
 refine (c_AutomatonValid (Ra.le lb)).go ?_
 rintro _ h3 ⟨l3,rfl⟩
 by_cases q1:a.Ok
 case neg=>
  have hn:¬Fm.inOk a b:=fun hh=>q1 hh.1
  simp -implicitDefEqProofs (disch:=first|omega|(simp only[LnZ];omega))[wrap64,q1,setC]
  exact RetK.keep (hk _ _ ⟨_,by rw[decide_eq_false hn],hno (lb.trans l3) hn⟩)
 simp -implicitDefEqProofs (disch:=first|omega|(simp only[LnZ];omega))[wrap64,q1,hload_le l3 hB,FB]
 refine (c_AutomatonValid (Rb.le (lb.trans l3))).go ?_
 rintro _ h4 ⟨l4,rfl⟩
 by_cases q2:b.Ok
 case neg=>
  have hn:¬Fm.inOk a b:=fun hh=>q2 hh.2.1
  simp -implicitDefEqProofs (disch:=first|omega|(simp only[LnZ];omega))[wrap64,q2,setC]
  exact RetK.keep (hk _ _ ⟨_,by rw[decide_eq_false hn],hno (lb.trans (l3.trans l4)) hn⟩)
 have l34:=l3.trans l4
 have hA0:=hload_le l34 hA0
 have hA1:=hload_le l34 hA1
 have hA2:=hload_le l34 hA2
 have hB0:=hload_le l34 hB0
 have hB1:=hload_le l34 hB1
 have hB2:=hload_le l34 hB2
 have lb:=lb.trans l34
 have RA1:=RA1.le lb
 have RA2:=RA2.le lb
 have RA3:=RA3.le lb
 have RB1:=RB1.le lb
 have RB2:=RB2.le lb
 have RB3:=RB3.le lb
 have hial:=incr_len q1.2.2.1 (by have:=q1.1; omega)
 have hibl:=incr_len q2.2.2.1 (by have:=q2.1; omega)
 have hacl:a.acc.length≤64:=by have:=q1.1; omega
 have hbcl:b.acc.length≤64:=by have:=q2.1; omega
 simp -implicitDefEqProofs (disch:=first|omega|(simp only[LnZ];omega))[wrap64,q2,hA0,RA1.len]
 refine wp_count a.init.length (fun i e h'=>∃o,e=[none,none,some (.pointer (some ⟨bA,0,none⟩)),some (.pointer (some ⟨bB,0,none⟩)),some (.agg #[.slice none 0 0,.slice none 0 0,.slice none 0 0]),none,some o,none,none,none,some a1,some (.int .i64 a.init.length),some (.int .i64 i),none,none,none]∧HS h4 [ow o (Fm.ini3 a b i)] h') ⟨.slice none 0 0,by simp,HS.init.nil_ow⟩ ?_
 rintro J i _ h5 hJ hi ⟨o,rfl,H⟩
 simp -implicitDefEqProofs (disch:=first|omega|(simp only[LnZ];omega))[wrap64]
 refine IteW.mk (fun hlt=>?_) (fun hge=>?_)
 ·have hix:i<a.init.length:=by omega
  have hsuc:=Fm.ini3_succ (b:=b) hix
  have hll:=Fm.ini3_len (b:=b) i hi
  have hmul:i*b.init.length≤64*64:=Nat.mul_le_mul (by omega) (by omega)
  have hokI:=RA1.okI hix
  simp -implicitDefEqProofs (disch:=first|omega|(simp only[LnZ];omega))[wrap64,(RA1.on H).I,hload_le H.base hB0,(RB1.on H).len]
  refine wp_count b.init.length (fun j e h'=>∃o,e=[none,none,some (.pointer (some ⟨bA,0,none⟩)),some (.pointer (some ⟨bB,0,none⟩)),some (.agg #[.slice none 0 0,.slice none 0 0,.slice none 0 0]),none,some o,some (.int .i64 a.init[i]),none,none,some a1,some (.int .i64 a.init.length),some (.int .i64 i),some b1,some (.int .i64 b.init.length),some (.int .i64 j)] ∧
   HS h4 [ow o (Fm.ini3 a b i++(b.init.take j).map fun q=>(a.init[i],q,(0:Int)))] h') ⟨o,by simp,by simpa using H⟩ ?_
  clear H
  rintro J2 j _ h6 hJ2 hj ⟨o,rfl,H⟩
  simp -implicitDefEqProofs (disch:=first|omega|(simp only[LnZ];omega))[wrap64]
  refine IteW.mk (fun hlt2=>?_) (fun hge2=>?_)
  ·have hjx:j<b.init.length:=by omega
   have hokJ:=RB1.okI hjx
   have hok3:I64 a.init[i]∧I64 b.init[j]∧I64 0:=⟨hokI,hokJ,⟨by omega,by omega⟩⟩
   have hlen:(Fm.ini3 a b i++(b.init.take j).map fun q=>(a.init[i],q,(0:Int))).length≤8192:=by
    simp only[List.length_append,List.length_map,List.length_take]
    omega
   simp -implicitDefEqProofs (disch:=first|omega|(simp only[LnZ];omega))[wrap64,(RB1.on H).I,setC]
   refine HS.app1 (bytes:=24) H (a.init[i],b.init[j],(0:Int)) rfl rfl rfl hok3 rfl rfl (by omega) (by omega) fun o' h7 H=>?_
   simp -implicitDefEqProofs (disch:=first|omega|(simp only[LnZ];omega))[wrap64]
   refine hJ2 _ _ hjx ⟨o',by simp,?_⟩
   rw[List.take_add_one,List.getElem?_eq_getElem hjx,List.map_append,← List.append_assoc]
   exact H
  ·obtain rfl:j=b.init.length:=by omega
   rw[List.take_length] at H
   simp -implicitDefEqProofs (disch:=first|omega|(simp only[LnZ];omega))[wrap64]
   exact hJ _ _ hix ⟨o,by simp,by rw[hsuc]; exact H⟩
 obtain rfl:i=a.init.length:=by omega
 have lb2:=H.base
 have hll:=Fm.ini3_len (b:=b) a.init.length (Nat.le_refl _)
 have hmul:a.init.length*b.init.length≤64*64:=Nat.mul_le_mul (by omega) (by omega)
 have hmul2:a.edges.length*b.edges.length≤2048*2048:=Nat.mul_le_mul q1.2.1 q2.2.1
 simp -implicitDefEqProofs (disch:=first|omega|(simp only[LnZ];omega))[wrap64]
 refine (c_explore3 (g:=h5) (I:=Fm.ini3 a b a.init.length) (mv:=Fm.prM a b) (ac:=Fm.prC b) (P:=fun p=>∃x y:Nat,p.1=x∧p.2.1=y∧x<a.acc.length∧y<b.acc.length∧(p.2.2=0∨p.2.2=1)) (K:=2048*2048) (Mf:=fun p=>Fm.iall a b (lf3 p) a.edges.length)
  (by decide) ?_ (by omega) ?_ ?_ ?_ ?_
  (fA:=fn_impl_IntersectAutomata_2) (a1:=[]) (a2:=[.pointer (some ⟨bB,0,none⟩)]) (fM:=fn_impl_IntersectAutomata_1) (m1:=[]) (m2:=[.pointer (some ⟨bA,0,none⟩),.pointer (some ⟨bB,0,none⟩)]) rfl rfl ?_ ?_ H.rep).go ?_
 ·unfold Fm.ini3
  rw[List.take_length]
  exact Fm.prs_nodup (incr_nodup q1.2.2.1) (incr_nodup q2.2.2.1)
 ·rintro⟨p1,p2,p3⟩ hp
  obtain⟨g1,g2,g3⟩:=Fm.ini3_mem hp
  have g4:=incr_mem q1.2.2.1 _ g1
  have g5:=incr_mem q2.2.2.1 _ g2
  simp only at g1 g2 g3 g4 g5
  exact⟨p1.toNat,p2.toNat,by simp only; omega,by simp only; omega,by omega,by omega,.inl g3⟩
 ·rintro⟨p1,p2,p3⟩ ⟨x,y,g1,g2,g3,g4,g5⟩
  simp only at g1 g2 g5
  exact⟨⟨by simp only; omega,by simp only; omega⟩,⟨by simp only; omega,by simp only; omega⟩,⟨by simp only; omega,by simp only; omega⟩⟩
 ·rintro⟨p1,p2,p3⟩ ⟨x,y,g1,g2,g3,g4,g5⟩
  refine⟨Fm.iall_prM,Nat.le_trans (Fm.iall_len _ (Nat.le_refl _)) hmul2,fun m hm=>?_⟩
  obtain⟨e,he,f,hf,rfl⟩:=Fm.iall_mem hm
  obtain⟨_,t1,_,k1,_,k2⟩:=q1.tr he
  obtain⟨_,t2,_,k3,_,k4⟩:=q2.tr hf
  refine⟨t1,t2,k1,k3,k2,k4,?_⟩
  unfold Fm.imv Fm.pph
  simp only
  split <;> split <;> simp
 ·rintro⟨p1,p2,p3⟩ _ m hm
  exact Fm.pr_ok q1 q2 _ m hm
 ·rintro⟨p1,p2,p3⟩ h8 ⟨x,y,g1,g2,g3,g4,g5⟩ l8
  simp only at g1 g2
  subst g1 g2
  have l58:=lb2.trans l8
  exact c_inter_2 (hload_le l58 hB1) (RB2.le l58) g4
 ·rintro⟨p1,p2,p3⟩ h8 ⟨x,y,g1,g2,g3,g4,g5⟩ l8
  simp only at g1 g2 g5
  subst g1 g2
  have l58:=lb2.trans l8
  exact c_inter_1 q1 q2 (hload_le l58 hA1) (hload_le l58 hA2) (hload_le l58 hB1) (hload_le l58 hB2) (RA2.le l58) (RA3.le l58) (RB2.le l58) (RB3.le l58) g3 g4 g5
 rintro _ h8 ⟨w2,rfl,G⟩
 rw[Fm.ini3_map] at G ⊢
 simp -implicitDefEqProofs (disch:=first|omega|(simp only[LnZ];omega))[wrap64,G.rep.aAut,setC]
 have hiff:Fm.inOk a b↔Fm.exOk (Fm.prM a b) (Fm.prC b) (Fm.prI a b):=⟨fun hh=>hh.2.2,fun hh=>⟨q1,q2,hh⟩⟩
 refine RetK.keep (hk _ _ ⟨w2,by rw[decide_eq_decide.2 hiff],?_⟩)
 have hR:Fm.inR a b=Fm.exR (Fm.prM a b) (Fm.prC b) (Fm.prI a b):=by
  by_cases q:Fm.inOk a b
  ·rw[Fm.inR,if_pos q,Fm.exR,if_pos (hiff.1 q)]; rfl
  ·rw[Fm.inR,if_neg q,Fm.exR,if_neg (fun hh=>q (hiff.2 hh))]
 rw[hR]
 exact HS.app (Γ:=[]) G (lb.trans lb2)
end Go.Proofs.YtbanccfdojgocaaGreat

namespace Go.Proofs.YtbanccfdojgocaaGreat
open Go
theorem Fm.prA_ok {a b:Aut}(h:Fm.inOk a b):(Fm.prA a b).Ok:=Fm.exA_ok h.2.2.1 h.2.2.2 fun _ _ m hm=>Fm.pr_ok h.1 h.2.1 _ m hm
set_option maxHeartbeats 2000000 in
theorem c_FnIntersectConjunction {h:Heap}{v w:Value}{l m:List (BitVec 8)}(R:Rep h v l) (RM0:Rep h w m):CallE Tryz.prog fn_laws_FnIntersectConjunction [v,w] h (fun u h'=>h.le h'∧u=.bool true):=by
 refine CallE.gen fun k hk=>EN_laws_FnIntersectConjunction rfl ?_
 by_cases a1:(1048576:Int)<l.length
 ·simp -implicitDefEqProofs (disch:=first|omega|(simp only[LnZ];omega))[wrap64,R.len,a1]
  exact RetK.keep (hk _ _ ⟨Heap.le.refl _,rfl⟩)
 by_cases a2:(1048576:Int)<m.length
 ·simp -implicitDefEqProofs (disch:=first|omega|(simp only[LnZ];omega))[wrap64,R.len,RM0.len,a1,a2]
  exact RetK.keep (hk _ _ ⟨Heap.le.refl _,rfl⟩)
 simp -implicitDefEqProofs (disch:=first|omega|(simp only[LnZ];omega))[wrap64,R.len,RM0.len,a1,a2]
 refine (c_DrawTranslateFormula R).go ?_
 rintro vf h1 ⟨x,l1,Rx⟩
 have FX:=Rx.aExq
 have R:=R.le l1
 have RM0:=RM0.le l1
 simp -implicitDefEqProofs (disch:=first|omega|(simp only[LnZ];omega))[wrap64,FX,setC]
 refine (c_DrawTranslateFormula RM0).go ?_
 rintro vg h2 ⟨z,l2,Rz⟩
 have FZ:=Rz.aExq
 have R:=R.le l2
 have RM0:=RM0.le l2
 have Rx:=Rx.le l2
 simp -implicitDefEqProofs (disch:=first|omega|(simp only[LnZ];omega))[wrap64,FX,FZ,setC]
 refine (HS.init (h:=h2)).appPL (α:=BitVec 8) rfl rfl RM0 rfl rfl (by omega) fun s1 h3 H=>?_
 simp -implicitDefEqProofs (disch:=first|omega|(simp only[LnZ];omega))[wrap64]
 refine H.appL rfl rfl (R.on H) rfl rfl (by omega) (by omega) fun s2 h4 H=>?_
 have l4:=H.base
 simp -implicitDefEqProofs (disch:=first|omega|(simp only[LnZ];omega))[wrap64]
 refine (c_DrawAccepts H.rep).go ?_
 rintro _ h5 ⟨u1,u2,a',y,rfl,l5,Ra',Ry,_⟩
 have Rx:=Rx.le (l4.trans l5)
 have Rz:=Rz.le (l4.trans l5)
 have lb:=(l1.trans l2).trans (l4.trans l5)
 clear H R RM0
 have FY:=Ry.aLas
 have FA':=Ra'.aAut
 simp -implicitDefEqProofs (disch:=first|omega|(simp only[LnZ];omega))[wrap64,FX,FY,FA',setC]
 refine (c_TranslateFormula Rx).go ?_
 rintro _ h6 ⟨w1,rfl,H⟩
 have FW:=H.rep.aAut
 simp -implicitDefEqProofs (disch:=first|omega|(simp only[LnZ];omega))[wrap64,FX,FW,setC]
 refine (c_spec_TranslateFormula (Rx.on H)).go ?_
 rintro _ h7 ⟨w2,rfl,H2⟩
 have H:=H2.app H
 have FV:=H.rep.aAut
 simp -implicitDefEqProofs (disch:=first|omega|(simp only[LnZ];omega))[wrap64,FZ,FW,FV,setC]
 refine (c_TranslateFormula (Rz.on H)).go ?_
 rintro _ h8 ⟨w3,rfl,H3⟩
 have H:=H3.app H
 have FB:=H.rep.aAut
 have RB:=H.rep
 have RV:=H.sw1.rep
 have RW:=H.sw2.rep
 have lb:=lb.trans H.base
 have Rx:=Rx.on H
 have Rz:=Rz.on H
 have Ry:=Ry.on H
 clear H H2 H3
 by_cases ha:Fm.trOk x
 case neg=>
  simp -implicitDefEqProofs (disch:=first|omega|(simp only[LnZ];omega))[wrap64,ha,FW,FV,FB,setC]
  refine (c_AutomatonSame RW RV).go ?_
  rintro _ _ ⟨rfl,rfl⟩
  simp -implicitDefEqProofs (disch:=first|omega|(simp only[LnZ];omega))[wrap64,FW,FV]
  refine (c_AutomatonSame RW RV).go ?_
  rintro _ _ ⟨rfl,rfl⟩
  simp -implicitDefEqProofs (disch:=first|omega|(simp only[LnZ];omega))[wrap64]
  exact RetK.keep (hk _ _ ⟨lb,rfl⟩)
 rw[Fm.trR,if_pos ha] at RV RW
 simp -implicitDefEqProofs (disch:=first|omega|(simp only[LnZ];omega))[wrap64,ha,FW,FV,FB,setC]
 refine (c_AutomatonSame RW RV).go ?_
 rintro _ _ ⟨rfl,rfl⟩
 by_cases hz:Fm.trOk z
 case neg=>
  simp -implicitDefEqProofs (disch:=first|omega|(simp only[LnZ];omega))[wrap64,hz,FW,FV]
  refine (c_AutomatonSame RW RV).go ?_
  rintro _ _ ⟨rfl,rfl⟩
  simp -implicitDefEqProofs (disch:=first|omega|(simp only[LnZ];omega))[wrap64]
  exact RetK.keep (hk _ _ ⟨lb,rfl⟩)
 rw[Fm.trR,if_pos hz] at RB
 obtain⟨xw,hxw,_,_,_⟩:=Rep_Exq.1 Rx
 subst hxw
 obtain⟨zw,hzw,_,_,_⟩:=Rep_Exq.1 Rz
 subst hzw
 simp -implicitDefEqProofs (disch:=first|omega|(simp only[LnZ];omega))[wrap64,hz,FX,FZ,setC]
 refine bls_two (α:=Exq) Rx Rz rfl fun sl h9 l9 Rs=>?_
 have Ro:Rep h9 (.agg #[.int .i64 4,.int .i64 0,sl]) (Exq.mk 4 0 [x,z]):=Rep_Exq.2 ⟨_,rfl,show I64 4 from ⟨by decide,by decide⟩,i64_0,Rs⟩
 simp -implicitDefEqProofs (disch:=first|omega|(simp only[LnZ];omega))[wrap64,Rs.one,Rs.cells,setC]
 refine (c_TranslateFormula Ro).go ?_
 rintro _ h10 ⟨w4,rfl,H⟩
 have FC:=H.rep.aAut
 have RC:=H.rep
 have RW:=(RW.le l9).on H
 have RB:=(RB.le l9).on H
 have Ry:=(Ry.le l9).on H
 have lb:=lb.trans (l9.trans H.base)
 clear H
 simp -implicitDefEqProofs (disch:=first|omega|(simp only[LnZ];omega))[wrap64,FW,FB,FC,setC]
 refine (c_IntersectAutomata RW RB).go ?_
 rintro _ h11 ⟨w5,rfl,H⟩
 have FD:=H.rep.aAut
 have RD:=H.rep
 have RC:=RC.on H
 have Ry:=Ry.on H
 have lb:=lb.trans H.base
 clear H
 by_cases hc:Fm.trOk (.mk 4 0 [x,z])
 case neg=>
  simp -implicitDefEqProofs (disch:=first|omega|(simp only[LnZ];omega))[wrap64,hc,FD,FC,setC]
  exact RetK.keep (hk _ _ ⟨lb,rfl⟩)
 by_cases hu:Fm.inOk (Fm.trA x) (Fm.trA z)
 case neg=>
  simp -implicitDefEqProofs (disch:=first|omega|(simp only[LnZ];omega))[wrap64,hc,hu,FD,FC,setC]
  exact RetK.keep (hk _ _ ⟨lb,rfl⟩)
 rw[Fm.trR,if_pos hc] at RC
 rw[Fm.inR,if_pos hu] at RD
 have hpo:=Fm.prA_ok hu
 simp -implicitDefEqProofs (disch:=first|omega|(simp only[LnZ];omega))[wrap64,hc,hu,FD,FC,FY,setC]
 refine (c_Accepts RC Ry).go ?_
 rintro _ h12 ⟨l12,rfl⟩
 simp -implicitDefEqProofs (disch:=first|omega|(simp only[LnZ];omega))[wrap64,FD,FY]
 refine (c_Accepts (RD.le l12) (Ry.le l12)).go ?_
 rintro _ h13 ⟨l13,rfl⟩
 have hcb:=Fm.trA_ok hc
 by_cases hy:y.Ok
 ·rw[Fm.acc_and ha hz hc hu.2.2.1 hpo hy]
  simp -implicitDefEqProofs (disch:=first|omega|(simp only[LnZ];omega))[wrap64,hcb,hpo,hy]
  exact RetK.keep (hk _ _ ⟨lb.trans (l12.trans l13),rfl⟩)
 ·have e1:(Fm.trA (.mk 4 0 [x,z])).accB y=false:=by simp[Aut.accB,hy]
  have e2:(Fm.prA (Fm.trA x) (Fm.trA z)).accB y=false:=by simp[Aut.accB,hy]
  rw[e1,e2]
  simp -implicitDefEqProofs (disch:=first|omega|(simp only[LnZ];omega))[wrap64,hcb,hpo,hy]
  exact RetK.keep (hk _ _ ⟨lb.trans (l12.trans l13),rfl⟩)
end Go.Proofs.YtbanccfdojgocaaGreat
