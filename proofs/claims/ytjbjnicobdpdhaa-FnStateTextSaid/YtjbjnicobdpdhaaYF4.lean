/-
  Texts of this proof, one behind the other.
-/
import Derived.Shelf.Strings.Builder1
import Derived.WalkKit
import Derived.BigCall
import Derived.Test.YtjbjnicobdpdhaaRows
import Derived.Shelf.Strings.Search1
import Derived.Shelf.Strings.Search2
import Derived.Shelf.Strings.Cut
import Derived.Shelf.LaysM
import Derived.Shelf.Strings.Shaped
import Derived.Test.YtjbjnicobdpdhaaYF3
set_option linter.all false
set_option linter.unusedVariables false
set_option linter.unusedSimpArgs false
set_option linter.defProp false
set_option maxRecDepth 1000000
namespace Go.Proofs.Ytjbjnicobdpdhaa
open Go
theorem i64_0:I64 0:=⟨by decide,by decide⟩
def Ed.zero:Ed:=⟨0,0,Exq.zero,0,Exq.zero,0⟩
def Pr.zero:Pr:=⟨0,[]⟩
theorem own_zeroE:Ty.own Heap.nil [.int .i64 0,.int .i64 0,.slice none 0 0] Exq.zero:=ownExq.2 ⟨_,rfl,i64_0,i64_0,Own_nils⟩
theorem own_zeroEd:Ty.own Heap.nil [.int .i64 0,.int .i64 0,.int .i64 0,.int .i64 0,.slice none 0 0,.int .i64 0,.int .i64 0,.int .i64 0,.slice none 0 0,.int .i64 0] Ed.zero:=
 ownEd.2 ⟨.slice none 0 0,.slice none 0 0,Heap.nil,Heap.nil,rfl,⟨i64_0,i64_0,i64_0,i64_0,i64_0,i64_0,i64_0,i64_0⟩,by simp,by simp,Own_nils,Own_nils⟩
theorem own_zeroPr:Ty.own Heap.nil [.int .i64 0,.slice none 0 0] Pr.zero:=⟨[_],[_],Heap.nil,Heap.nil,rfl,by simp,by simp,⟨rfl,rfl,i64_0⟩,own_nils⟩
theorem c_toExprS_of {h:Heap}{a:Value}{x:List Exq}(ih:∀y∈x,∀{h:Heap}{v:Value},Rep h v y→Sz.sz y≤1048576→CallE Try.prog fn_laws_toExpr [v] h (fun u h'=>HS h [ow u y] h')) (Ra:Rep h a x) (hs:Sz.sz x≤1048576):CallE Try.prog fn_laws_toExprS [a] h (fun v h'=>HS h [ow v x] h'):=by
 rw[sz_list] at hs
 refine CallE.gen fun k hk=>EN_laws_toExprS rfl ?_
 simp -implicitDefEqProofs (disch:=first|omega|(simp only[LnZ];omega))[wrap64,Ra.len]
 refine HS.init.mks (α:=Exq) (z:=Exq.zero) rfl rfl (own_zeroE) (Nat.le_refl _) (by omega) (by omega) fun v h1 H=>?_
 simp -implicitDefEqProofs (disch:=omega)[wrap64]
 refine wp_count x.length (fun i e h'=>e=[some a,none,some v,some (.int .i64 i)]∧∃y,HS h [ow v y] h'∧y.length=x.length∧y.take i=x.take i) ⟨rfl,_,H,by simp,by simp⟩ ?_
 clear H
 rintro J i _ h2 hJ hi ⟨rfl,y,H,hl,hy⟩
 simp -implicitDefEqProofs (disch:=first|omega|(simp only[LnZ];omega))[wrap64,Ra.len]
 refine IteW.mk (fun hlt=>?_) (fun hge=>?_)
 ·have hlx:i<x.length:=by omega
  obtain⟨u,hu,Ru⟩:=(Ra.on H).ld hlx
  change hload _ (some (elp 3 a i)) (some 3)=some u at hu
  have hsi:=szL_get hlx
  simp -implicitDefEqProofs (disch:=first|omega|(simp only[LnZ];omega))[wrap64,Ra.X (n:=3) rfl,hu]
  refine (ih _ (List.getElem_mem hlx) Ru (by omega)).go ?_
  intro w h3 G
  have H:=G.app H
  simp -implicitDefEqProofs (disch:=first|omega|(simp only[LnZ];omega))[wrap64,H.sw1.rep.X (n:=3) rfl,G.rep.aExq]
  refine HS.store H (by omega) rfl rfl rfl fun h4 H=>?_
  simp -implicitDefEqProofs (disch:=omega)[wrap64]
  exact hJ _ _ hlx ⟨rfl,_,H,by simp[hl],take_set_succ hy hlx hl⟩
 ·simp -implicitDefEqProofs (disch:=omega)[wrap64]
  refine RetK.keep (hk _ _ ?_)
  rw[← eq_of_take hy (by omega) hl];exact H
theorem c_toExpr:∀(x:Exq) {h:Heap}{v:Value},Rep h v x→Sz.sz x≤1048576→CallE Try.prog fn_laws_toExpr [v] h (fun u h'=>HS h [ow u x] h'):=by
 refine Exq.ind fun x ih h v R hs=>?_
 obtain⟨w,rfl,k1,k2,R1⟩:=Rep_Exq.1 R
 rw[sz_Exq] at hs
 refine CallE.gen fun k hk=>EN_laws_toExpr rfl ?_
 simp -implicitDefEqProofs (disch:=first|omega|(simp only[LnZ];omega))[wrap64,setC]
 refine (c_toExprS_of ih R1 hs).go ?_
 intro u h1 G
 simp -implicitDefEqProofs (disch:=first|omega|(simp only[LnZ];omega))[wrap64,setC,G.rep.cells,G.rep.one]
 exact RetK.keep (hk _ _ (G.mkExq k1 k2))
theorem c_toEdge {e:Ed}{h:Heap}{v:Value}(R:Rep h v e) (hs:Sz.sz e≤1048576):CallE Try.prog fn_laws_toEdge [v] h (fun u h'=>HS h [ow u e] h'):=by
 obtain⟨w1,w2,rfl,ok,R1,R2⟩:=Rep_Ed.1 R
 have hs':Sz.sz e.guard+Sz.sz e.value≤1048576:=hs
 have G1:Rep h (.agg #[.int .i64 e.guard.kind,.int .i64 e.guard.val,w1]) e.guard:=Rep_Exq.2 ⟨w1,rfl,ok.gk,ok.gv,R1⟩
 have G2:Rep h (.agg #[.int .i64 e.value.kind,.int .i64 e.value.val,w2]) e.value:=Rep_Exq.2 ⟨w2,rfl,ok.vk,ok.vv,R2⟩
 refine CallE.gen fun k hk=>EN_laws_toEdge rfl ?_
 simp -implicitDefEqProofs (disch:=first|omega|(simp only[LnZ];omega))[wrap64,setC,Ed.cs]
 refine (c_toExpr _ G1 (by omega)).go ?_
 intro u1 h1 H1
 obtain⟨x1,rfl,_,_,H1⟩:=H1.unExq
 have F1:=H1.rep.cells
 have F2:=H1.rep.one
 simp -implicitDefEqProofs (disch:=first|omega|(simp only[LnZ];omega))[wrap64,setC,Ed.cs,F1,F2]
 refine (c_toExpr _ (G2.on H1) (by omega)).go ?_
 intro u2 h2 H2
 obtain⟨x2,rfl,_,_,H2⟩:=H2.unExq
 have F3:=H2.rep.cells
 have F4:=H2.rep.one
 have H:=H2.app H1
 simp -implicitDefEqProofs (disch:=first|omega|(simp only[LnZ];omega))[wrap64,setC,Ed.cs,F1,F2,F3,F4]
 exact RetK.keep (hk _ _ (H.sw1.mkEd ok))
theorem c_toEdgeS {h:Heap}{a:Value}{x:List Ed}(Ra:Rep h a x) (hs:Sz.sz x≤1048576):CallE Try.prog fn_laws_toEdgeS [a] h (fun v h'=>HS h [ow v x] h'):=by
 rw[sz_list] at hs
 refine CallE.gen fun k hk=>EN_laws_toEdgeS rfl ?_
 simp -implicitDefEqProofs (disch:=first|omega|(simp only[LnZ];omega))[wrap64,Ra.len]
 refine HS.init.mks (α:=Ed) (z:=Ed.zero) rfl rfl (own_zeroEd) (Nat.le_refl _) (by omega) (by omega) fun v h1 H=>?_
 simp -implicitDefEqProofs (disch:=omega)[wrap64]
 refine wp_count x.length (fun i e h'=>e=[some a,none,some v,some (.int .i64 i)]∧∃y,HS h [ow v y] h'∧y.length=x.length∧y.take i=x.take i) ⟨rfl,_,H,by simp,by simp⟩ ?_
 clear H
 rintro J i _ h2 hJ hi ⟨rfl,y,H,hl,hy⟩
 simp -implicitDefEqProofs (disch:=first|omega|(simp only[LnZ];omega))[wrap64,Ra.len]
 refine IteW.mk (fun hlt=>?_) (fun hge=>?_)
 ·have hlx:i<x.length:=by omega
  obtain⟨u,hu,Ru⟩:=(Ra.on H).ld hlx
  change hload _ (some (elp 10 a i)) (some 10)=some u at hu
  have hsi:=szL_get hlx
  simp -implicitDefEqProofs (disch:=first|omega|(simp only[LnZ];omega))[wrap64,Ra.X (n:=10) rfl,hu]
  refine (c_toEdge Ru (by omega)).go ?_
  intro w h3 G
  have H:=G.app H
  simp -implicitDefEqProofs (disch:=first|omega|(simp only[LnZ];omega))[wrap64,H.sw1.rep.X (n:=10) rfl,G.rep.aEd]
  refine HS.store H (by omega) rfl rfl rfl fun h4 H=>?_
  simp -implicitDefEqProofs (disch:=omega)[wrap64]
  exact hJ _ _ hlx ⟨rfl,_,H,by simp[hl],take_set_succ hy hlx hl⟩
 ·simp -implicitDefEqProofs (disch:=omega)[wrap64]
  refine RetK.keep (hk _ _ ?_)
  rw[← eq_of_take hy (by omega) hl];exact H
theorem c_toProcess {p:Pr}{h:Heap}{v:Value}(R:Rep h v p) (hs:Sz.sz p≤1048576):CallE Try.prog fn_laws_toProcess [v] h (fun u h'=>HS h [ow u p] h'):=by
 obtain⟨w,rfl,k1,R1⟩:=Rep_Pr.1 R
 refine CallE.gen fun k hk=>EN_laws_toProcess rfl ?_
 simp -implicitDefEqProofs (disch:=first|omega|(simp only[LnZ];omega))[wrap64,setC]
 refine (c_toEdgeS R1 hs).go ?_
 intro u h1 G
 simp -implicitDefEqProofs (disch:=first|omega|(simp only[LnZ];omega))[wrap64,setC,G.rep.cells,G.rep.one]
 exact RetK.keep (hk _ _ (G.mkPr k1))
theorem c_toProcessS {h:Heap}{a:Value}{x:List Pr}(Ra:Rep h a x) (hs:Sz.sz x≤1048576):CallE Try.prog fn_laws_toProcessS [a] h (fun v h'=>HS h [ow v x] h'):=by
 rw[sz_list] at hs
 refine CallE.gen fun k hk=>EN_laws_toProcessS rfl ?_
 simp -implicitDefEqProofs (disch:=first|omega|(simp only[LnZ];omega))[wrap64,Ra.len]
 refine HS.init.mks (α:=Pr) (z:=Pr.zero) rfl rfl (own_zeroPr) (Nat.le_refl _) (by omega) (by omega) fun v h1 H=>?_
 simp -implicitDefEqProofs (disch:=omega)[wrap64]
 refine wp_count x.length (fun i e h'=>e=[some a,none,some v,some (.int .i64 i)]∧∃y,HS h [ow v y] h'∧y.length=x.length∧y.take i=x.take i) ⟨rfl,_,H,by simp,by simp⟩ ?_
 clear H
 rintro J i _ h2 hJ hi ⟨rfl,y,H,hl,hy⟩
 simp -implicitDefEqProofs (disch:=first|omega|(simp only[LnZ];omega))[wrap64,Ra.len]
 refine IteW.mk (fun hlt=>?_) (fun hge=>?_)
 ·have hlx:i<x.length:=by omega
  obtain⟨u,hu,Ru⟩:=(Ra.on H).ld hlx
  change hload _ (some (elp 2 a i)) (some 2)=some u at hu
  have hsi:=szL_get hlx
  simp -implicitDefEqProofs (disch:=first|omega|(simp only[LnZ];omega))[wrap64,Ra.X (n:=2) rfl,hu]
  refine (c_toProcess Ru (by omega)).go ?_
  intro w h3 G
  have H:=G.app H
  simp -implicitDefEqProofs (disch:=first|omega|(simp only[LnZ];omega))[wrap64,H.sw1.rep.X (n:=2) rfl,G.rep.aPr]
  refine HS.store H (by omega) rfl rfl rfl fun h4 H=>?_
  simp -implicitDefEqProofs (disch:=omega)[wrap64]
  exact hJ _ _ hlx ⟨rfl,_,H,by simp[hl],take_set_succ hy hlx hl⟩
 ·simp -implicitDefEqProofs (disch:=omega)[wrap64]
  refine RetK.keep (hk _ _ ?_)
  rw[← eq_of_take hy (by omega) hl];exact H
theorem c_toSystem {h:Heap}{v:Value}{a:Sy}(Ra:Rep h v a) (hs:Sz.sz a≤1048576):CallE Try.prog fn_laws_toSystem [v] h (fun v h'=>HS h [ow v a] h'):=by
 have hs':Sz.sz a.init+Sz.sz a.procs≤1048576:=hs
 obtain⟨v1,v2,rfl,R1,R2⟩:=Rep_Sy.1 Ra
 refine CallE.gen fun k hk=>EN_laws_toSystem rfl ?_
 have H0:HS h [] h:=HS.init
 simp -implicitDefEqProofs (disch:=first|omega|(simp only[LnZ];omega))[wrap64,setC]
 refine (c_toIntS (R1.on H0) (by omega)).go ?_
 intro u1 h1 G1
 have H1:=HS.app G1 H0
 simp -implicitDefEqProofs (disch:=first|omega|(simp only[LnZ];omega))[wrap64,setC,G1.rep.cells,G1.rep.one]
 refine (c_toProcessS (R2.on H1) (by omega)).go ?_
 intro u2 h2 G2
 have H2:=HS.app G2 H1
 simp -implicitDefEqProofs (disch:=first|omega|(simp only[LnZ];omega))[wrap64,setC,G1.rep.cells,G1.rep.one,G2.rep.cells,G2.rep.one]
 exact RetK.keep (hk _ _ (HS.mkSy H2.sw1))
theorem c_szExprS_of {h:Heap}{a:Value}{x:List Exq}(ih:∀y∈x,∀{h:Heap}{a:Value},Rep h a y→∀{n:Int},0≤n∧n≤1048576→CallE Try.prog fn_laws_szExpr [a,.int .i64 n] h (fun v h'=>h'=h∧∃m:Int,v=.int .i64 m∧(m = -1∨(0≤m∧m+Sz.sz y=n)))) (Ra:Rep h a x) {n:Int}(hn:0≤n∧n≤1048576):CallE Try.prog fn_laws_szExprS [a,.int .i64 n] h (fun v h'=>h'=h∧∃m:Int,v=.int .i64 m∧(m = -1∨(0≤m∧m+Sz.sz x=n))):=by
 rw[sz_list]
 refine CallE.gen fun k hk=>EN_laws_szExprS rfl ?_
 have hL:=Ra.lt
 simp -implicitDefEqProofs (disch:=first|omega|(simp only[LnZ];omega))[wrap64,Ra.len]
 refine IteW.mk (fun hlt=>?_) (fun hge=>?_)
 ·simp -implicitDefEqProofs (disch:=omega)[wrap64]
  exact RetK.keep (hk _ _ ⟨rfl,_,rfl,.inl rfl⟩)
 simp -implicitDefEqProofs (disch:=omega)[wrap64]
 refine wp_count x.length (fun i e h'=>h'=h∧∃m:Int,e=[some a,some (.int .i64 m),none,some (.int .i64 i)]∧0≤m∧m+x.length+szL (x.take i)=n) ⟨rfl,_,rfl,by omega,by simp[szL]⟩ ?_
 rintro J i _ _ hJ hi ⟨rfl,m,rfl,hm,hmn⟩
 simp -implicitDefEqProofs (disch:=first|omega|(simp only[LnZ];omega))[wrap64,Ra.len]
 refine IteW.mk (fun hlt=>?_) (fun hge2=>?_)
 ·have hlx:i<x.length:=by omega
  obtain⟨u,hu,Ru⟩:=Ra.ld hlx
  change hload _ (some (elp 3 a i)) (some 3)=some u at hu
  simp -implicitDefEqProofs (disch:=first|omega|(simp only[LnZ];omega))[wrap64,Ra.X (n:=3) rfl,hu]
  refine (ih _ (List.getElem_mem hlx) Ru (n:=m) (by omega)).go ?_
  rintro _ _ ⟨rfl,m2,rfl,q⟩
  simp -implicitDefEqProofs (disch:=omega)[wrap64]
  refine IteW.mk (fun hlt=>?_) (fun hge=>?_)
  ·simp -implicitDefEqProofs (disch:=omega)[wrap64]
   exact RetK.keep (hk _ _ ⟨rfl,_,rfl,.inl rfl⟩)
  ·simp -implicitDefEqProofs (disch:=omega)[wrap64]
   exact hJ _ _ hlx ⟨rfl,_,rfl,by omega,by rw[szL_take hlx];omega⟩
 ·simp -implicitDefEqProofs (disch:=omega)[wrap64]
  rw[List.take_of_length_le (by omega)] at hmn
  exact RetK.keep (hk _ _ ⟨rfl,_,rfl,.inr (by omega)⟩)
theorem c_szExpr:∀(x:Exq) {h:Heap}{a:Value},Rep h a x→∀{n:Int},0≤n∧n≤1048576→CallE Try.prog fn_laws_szExpr [a,.int .i64 n] h (fun v h'=>h'=h∧∃m:Int,v=.int .i64 m∧(m = -1∨(0≤m∧m+Sz.sz x=n))):=by
 refine Exq.ind fun x ih h a R n hn=>?_
 obtain⟨w,rfl,k1,k2,R1⟩:=Rep_Exq.1 R
 rw[sz_Exq]
 refine CallE.gen fun k hk=>EN_laws_szExpr rfl ?_
 simp -implicitDefEqProofs (disch:=omega)[wrap64]
 refine (c_szExprS_of ih R1 hn).go ?_
 rintro _ _ ⟨rfl,m,rfl,q⟩
 simp -implicitDefEqProofs (disch:=omega)[wrap64]
 refine IteW.mk (fun hlt=>?_) (fun hge=>?_)
 ·simp -implicitDefEqProofs (disch:=omega)[wrap64]
  exact RetK.keep (hk _ _ ⟨rfl,_,rfl,.inl rfl⟩)
 ·simp -implicitDefEqProofs (disch:=omega)[wrap64]
  exact RetK.keep (hk _ _ ⟨rfl,_,rfl,.inr (by omega)⟩)
theorem c_szEdge {e:Ed}{h:Heap}{a:Value}(R:Rep h a e) {n:Int}(hn:0≤n∧n≤1048576):CallE Try.prog fn_laws_szEdge [a,.int .i64 n] h (fun v h'=>h'=h∧∃m:Int,v=.int .i64 m∧(m = -1∨(0≤m∧m+Sz.sz e=n))):=by
 obtain⟨w1,w2,rfl,ok,R1,R2⟩:=Rep_Ed.1 R
 have G1:Rep h (.agg #[.int .i64 e.guard.kind,.int .i64 e.guard.val,w1]) e.guard:=Rep_Exq.2 ⟨w1,rfl,ok.gk,ok.gv,R1⟩
 have G2:Rep h (.agg #[.int .i64 e.value.kind,.int .i64 e.value.val,w2]) e.value:=Rep_Exq.2 ⟨w2,rfl,ok.vk,ok.vv,R2⟩
 have hz:Sz.sz e=Sz.sz e.guard+Sz.sz e.value:=rfl
 refine CallE.gen fun k hk=>EN_laws_szEdge rfl ?_
 simp -implicitDefEqProofs (disch:=first|omega|(simp only[LnZ];omega))[wrap64,Ed.cs]
 refine (c_szExpr _ G1 hn).go ?_
 rintro _ _ ⟨rfl,m,rfl,q⟩
 simp -implicitDefEqProofs (disch:=omega)[wrap64]
 refine IteW.mk (fun hlt=>?_) (fun hge=>?_)
 ·simp -implicitDefEqProofs (disch:=omega)[wrap64]
  exact RetK.keep (hk _ _ ⟨rfl,_,rfl,.inl rfl⟩)
 simp -implicitDefEqProofs (disch:=first|omega|(simp only[LnZ];omega))[wrap64,Ed.cs]
 refine (c_szExpr _ G2 (by omega)).go ?_
 rintro _ _ ⟨rfl,m2,rfl,q2⟩
 simp -implicitDefEqProofs (disch:=omega)[wrap64]
 refine IteW.mk (fun hlt=>?_) (fun hge=>?_)
 ·simp -implicitDefEqProofs (disch:=omega)[wrap64]
  exact RetK.keep (hk _ _ ⟨rfl,_,rfl,.inl rfl⟩)
 simp -implicitDefEqProofs (disch:=omega)[wrap64]
 exact RetK.keep (hk _ _ ⟨rfl,_,rfl,.inr (by omega)⟩)
theorem c_szEdgeS {h:Heap}{a:Value}{x:List Ed}(Ra:Rep h a x) {n:Int}(hn:0≤n∧n≤1048576):CallE Try.prog fn_laws_szEdgeS [a,.int .i64 n] h (fun v h'=>h'=h∧∃m:Int,v=.int .i64 m∧(m = -1∨(0≤m∧m+Sz.sz x=n))):=by
 rw[sz_list]
 refine CallE.gen fun k hk=>EN_laws_szEdgeS rfl ?_
 have hL:=Ra.lt
 simp -implicitDefEqProofs (disch:=first|omega|(simp only[LnZ];omega))[wrap64,Ra.len]
 refine IteW.mk (fun hlt=>?_) (fun hge=>?_)
 ·simp -implicitDefEqProofs (disch:=omega)[wrap64]
  exact RetK.keep (hk _ _ ⟨rfl,_,rfl,.inl rfl⟩)
 simp -implicitDefEqProofs (disch:=omega)[wrap64]
 refine wp_count x.length (fun i e h'=>h'=h∧∃m:Int,e=[some a,some (.int .i64 m),none,some (.int .i64 i)]∧0≤m∧m+x.length+szL (x.take i)=n) ⟨rfl,_,rfl,by omega,by simp[szL]⟩ ?_
 rintro J i _ _ hJ hi ⟨rfl,m,rfl,hm,hmn⟩
 simp -implicitDefEqProofs (disch:=first|omega|(simp only[LnZ];omega))[wrap64,Ra.len]
 refine IteW.mk (fun hlt=>?_) (fun hge2=>?_)
 ·have hlx:i<x.length:=by omega
  obtain⟨u,hu,Ru⟩:=Ra.ld hlx
  change hload _ (some (elp 10 a i)) (some 10)=some u at hu
  simp -implicitDefEqProofs (disch:=first|omega|(simp only[LnZ];omega))[wrap64,Ra.X (n:=10) rfl,hu]
  refine (c_szEdge Ru (n:=m) (by omega)).go ?_
  rintro _ _ ⟨rfl,m2,rfl,q⟩
  simp -implicitDefEqProofs (disch:=omega)[wrap64]
  refine IteW.mk (fun hlt=>?_) (fun hge=>?_)
  ·simp -implicitDefEqProofs (disch:=omega)[wrap64]
   exact RetK.keep (hk _ _ ⟨rfl,_,rfl,.inl rfl⟩)
  ·simp -implicitDefEqProofs (disch:=omega)[wrap64]
   exact hJ _ _ hlx ⟨rfl,_,rfl,by omega,by rw[szL_take hlx];omega⟩
 ·simp -implicitDefEqProofs (disch:=omega)[wrap64]
  rw[List.take_of_length_le (by omega)] at hmn
  exact RetK.keep (hk _ _ ⟨rfl,_,rfl,.inr (by omega)⟩)
theorem c_szProcess {p:Pr}{h:Heap}{a:Value}(R:Rep h a p) {n:Int}(hn:0≤n∧n≤1048576):CallE Try.prog fn_laws_szProcess [a,.int .i64 n] h (fun v h'=>h'=h∧∃m:Int,v=.int .i64 m∧(m = -1∨(0≤m∧m+Sz.sz p=n))):=by
 obtain⟨w,rfl,k1,R1⟩:=Rep_Pr.1 R
 have hz:Sz.sz p=Sz.sz p.edges:=rfl
 refine CallE.gen fun k hk=>EN_laws_szProcess rfl ?_
 simp -implicitDefEqProofs (disch:=omega)[wrap64]
 refine (c_szEdgeS R1 hn).go ?_
 rintro _ _ ⟨rfl,m,rfl,q⟩
 simp -implicitDefEqProofs (disch:=omega)[wrap64]
 refine IteW.mk (fun hlt=>?_) (fun hge=>?_)
 ·simp -implicitDefEqProofs (disch:=omega)[wrap64]
  exact RetK.keep (hk _ _ ⟨rfl,_,rfl,.inl rfl⟩)
 ·simp -implicitDefEqProofs (disch:=omega)[wrap64]
  exact RetK.keep (hk _ _ ⟨rfl,_,rfl,.inr (by omega)⟩)
theorem c_szProcessS {h:Heap}{a:Value}{x:List Pr}(Ra:Rep h a x) {n:Int}(hn:0≤n∧n≤1048576):CallE Try.prog fn_laws_szProcessS [a,.int .i64 n] h (fun v h'=>h'=h∧∃m:Int,v=.int .i64 m∧(m = -1∨(0≤m∧m+Sz.sz x=n))):=by
 rw[sz_list]
 refine CallE.gen fun k hk=>EN_laws_szProcessS rfl ?_
 have hL:=Ra.lt
 simp -implicitDefEqProofs (disch:=first|omega|(simp only[LnZ];omega))[wrap64,Ra.len]
 refine IteW.mk (fun hlt=>?_) (fun hge=>?_)
 ·simp -implicitDefEqProofs (disch:=omega)[wrap64]
  exact RetK.keep (hk _ _ ⟨rfl,_,rfl,.inl rfl⟩)
 simp -implicitDefEqProofs (disch:=omega)[wrap64]
 refine wp_count x.length (fun i e h'=>h'=h∧∃m:Int,e=[some a,some (.int .i64 m),none,some (.int .i64 i)]∧0≤m∧m+x.length+szL (x.take i)=n) ⟨rfl,_,rfl,by omega,by simp[szL]⟩ ?_
 rintro J i _ _ hJ hi ⟨rfl,m,rfl,hm,hmn⟩
 simp -implicitDefEqProofs (disch:=first|omega|(simp only[LnZ];omega))[wrap64,Ra.len]
 refine IteW.mk (fun hlt=>?_) (fun hge2=>?_)
 ·have hlx:i<x.length:=by omega
  obtain⟨u,hu,Ru⟩:=Ra.ld hlx
  change hload _ (some (elp 2 a i)) (some 2)=some u at hu
  simp -implicitDefEqProofs (disch:=first|omega|(simp only[LnZ];omega))[wrap64,Ra.X (n:=2) rfl,hu]
  refine (c_szProcess Ru (n:=m) (by omega)).go ?_
  rintro _ _ ⟨rfl,m2,rfl,q⟩
  simp -implicitDefEqProofs (disch:=omega)[wrap64]
  refine IteW.mk (fun hlt=>?_) (fun hge=>?_)
  ·simp -implicitDefEqProofs (disch:=omega)[wrap64]
   exact RetK.keep (hk _ _ ⟨rfl,_,rfl,.inl rfl⟩)
  ·simp -implicitDefEqProofs (disch:=omega)[wrap64]
   exact hJ _ _ hlx ⟨rfl,_,rfl,by omega,by rw[szL_take hlx];omega⟩
 ·simp -implicitDefEqProofs (disch:=omega)[wrap64]
  rw[List.take_of_length_le (by omega)] at hmn
  exact RetK.keep (hk _ _ ⟨rfl,_,rfl,.inr (by omega)⟩)
theorem c_szSystem {h:Heap}{a:Value}{x:Sy}(Ra:Rep h a x) {n:Int}(hn:0≤n∧n≤1048576):CallE Try.prog fn_laws_szSystem [a,.int .i64 n] h (fun v h'=>h'=h∧∃m:Int,v=.int .i64 m∧(m = -1∨(0≤m∧m+Sz.sz x=n))):=by
 have hz:Sz.sz x=Sz.sz x.init+Sz.sz x.procs:=rfl
 obtain⟨v1,v2,rfl,R1,R2⟩:=Rep_Sy.1 Ra
 refine CallE.gen fun k hk=>EN_laws_szSystem rfl ?_
 simp -implicitDefEqProofs (disch:=omega)[wrap64]
 refine (c_szIntS R1 (by omega)).go ?_
 rintro _ _ ⟨rfl,m1,rfl,q1⟩
 simp -implicitDefEqProofs (disch:=omega)[wrap64]
 refine IteW.mk (fun hlt=>?_) (fun hge=>?_)
 ·simp -implicitDefEqProofs (disch:=omega)[wrap64]
  exact RetK.keep (hk _ _ ⟨rfl,_,rfl,.inl rfl⟩)
 simp -implicitDefEqProofs (disch:=omega)[wrap64]
 refine (c_szProcessS R2 (by omega)).go ?_
 rintro _ _ ⟨rfl,m2,rfl,q2⟩
 simp -implicitDefEqProofs (disch:=omega)[wrap64]
 refine IteW.mk (fun hlt=>?_) (fun hge=>?_)
 ·simp -implicitDefEqProofs (disch:=omega)[wrap64]
  exact RetK.keep (hk _ _ ⟨rfl,_,rfl,.inl rfl⟩)
 try simp -implicitDefEqProofs (disch:=omega)[wrap64]
 exact RetK.keep (hk _ _ ⟨rfl,_,rfl,.inr (by omega)⟩)
theorem c_eqExprS_of {h:Heap}{a b:Value}{x y:List Exq}(ih:∀z∈x,∀{h:Heap}{a b:Value}{w:Exq},Rep h a z→Rep h b w→CallE Try.prog fn_laws_eqExpr [a,b] h (fun v h'=>h'=h∧v=.bool (decide (z=w)))) (Ra:Rep h a x) (Rb:Rep h b y):CallE Try.prog fn_laws_eqExprS [a,b] h (fun v h'=>h'=h∧v=.bool (decide (x=y))):=by
 refine CallE.gen fun k hk=>EN_laws_eqExprS rfl ?_
 have hL:=Ra.lt
 simp -implicitDefEqProofs (disch:=first|omega|(simp only[LnZ];omega))[wrap64,Ra.len,Rb.len]
 refine IteW.mkr (fun hne=>?_) (fun heq=>?_)
 ·simp -implicitDefEqProofs (disch:=omega)[wrap64]
  exact RetK.keep (hk _ _ ⟨rfl,by simp;rintro rfl;exact hne rfl⟩)
 simp -implicitDefEqProofs (disch:=omega)[wrap64]
 refine wp_count x.length (fun i e h'=>h'=h∧e=[some a,some b,none,some (.int .i64 i)]∧x.take i=y.take i) ⟨rfl,rfl,rfl⟩ ?_
 rintro J i _ _ hJ hi ⟨rfl,rfl,hxy⟩
 simp -implicitDefEqProofs (disch:=first|omega|(simp only[LnZ];omega))[wrap64,Ra.len]
 refine IteW.mk (fun hlt=>?_) (fun hge=>?_)
 ·have hly:i<y.length:=by omega
  have hlx:i<x.length:=by omega
  obtain⟨u,hu,Ru⟩:=Ra.ld hlx
  obtain⟨w,hw,Rw⟩:=Rb.ld hly
  change hload _ (some (elp 3 a i)) (some 3)=some u at hu
  change hload _ (some (elp 3 b i)) (some 3)=some w at hw
  simp -implicitDefEqProofs (disch:=first|omega|(simp only[LnZ];omega))[wrap64,Ra.X (n:=3) rfl,Rb.X (n:=3) rfl,hu,hw]
  refine (ih _ (List.getElem_mem hlx) Ru Rw).go ?_
  rintro _ _ ⟨rfl,rfl⟩
  simp -implicitDefEqProofs (disch:=omega)[wrap64]
  refine IteW.mkr (fun hne=>?_) (fun heq=>?_)
  ·simp -implicitDefEqProofs (disch:=omega)[wrap64]
   exact RetK.keep (hk _ _ ⟨rfl,by simp;rintro rfl;exact hne rfl⟩)
  simp -implicitDefEqProofs (disch:=omega)[wrap64]
  exact hJ _ _ hlx ⟨rfl,rfl,take_step hxy hlx hly heq⟩
 ·simp -implicitDefEqProofs (disch:=omega)[wrap64]
  refine RetK.keep (hk _ _ ⟨rfl,?_⟩)
  simp
  rw[List.take_of_length_le (by omega),List.take_of_length_le (by omega)] at hxy
  exact hxy
theorem c_eqExpr':∀(x:Exq) {h:Heap}{a b:Value}{y:Exq},Rep h a x→Rep h b y→CallE Try.prog fn_laws_eqExpr [a,b] h (fun v h'=>h'=h∧v=.bool (decide (x=y))):=by
 refine Exq.ind fun x ih h a b y Ra Rb=>?_
 obtain⟨w,rfl,k1,k2,R1⟩:=Rep_Exq.1 Ra
 obtain⟨w2,rfl,k3,k4,R2⟩:=Rep_Exq.1 Rb
 refine CallE.gen fun k hk=>EN_laws_eqExpr rfl ?_
 simp -implicitDefEqProofs (disch:=omega)[wrap64]
 refine IteW.mkr (fun h1=>?_) (fun h1=>?_)
 ·simp -implicitDefEqProofs (disch:=omega)[wrap64]
  exact RetK.keep (hk _ _ ⟨rfl,by simp[Exq.ext_iff',h1]⟩)
 simp -implicitDefEqProofs (disch:=omega)[wrap64]
 refine IteW.mkr (fun h2=>?_) (fun h2=>?_)
 ·simp -implicitDefEqProofs (disch:=omega)[wrap64]
  exact RetK.keep (hk _ _ ⟨rfl,by simp[Exq.ext_iff',h2]⟩)
 simp -implicitDefEqProofs (disch:=omega)[wrap64]
 refine (c_eqExprS_of ih R1 R2).go ?_
 rintro _ _ ⟨rfl,rfl⟩
 simp -implicitDefEqProofs (disch:=omega)[wrap64]
 refine IteW.mkr (fun h3=>?_) (fun h3=>?_)
 ·simp -implicitDefEqProofs (disch:=omega)[wrap64]
  exact RetK.keep (hk _ _ ⟨rfl,by simp[Exq.ext_iff',h3]⟩)
 simp -implicitDefEqProofs (disch:=omega)[wrap64]
 exact RetK.keep (hk _ _ ⟨rfl,by simp[Exq.ext_iff',h1,h2,h3]⟩)
theorem c_eqExpr {x:Exq}{h:Heap}{a b:Value}{y:Exq}(Ra:Rep h a x) (Rb:Rep h b y):CallE Try.prog fn_laws_eqExpr [a,b] h (fun v h'=>h'=h∧v=.bool (decide (x=y))):=c_eqExpr' x Ra Rb
theorem c_eqEdge {x y:Ed}{h:Heap}{a b:Value}(Ra:Rep h a x) (Rb:Rep h b y):CallE Try.prog fn_laws_eqEdge [a,b] h (fun v h'=>h'=h∧v=.bool (decide (x=y))):=by
 obtain⟨w1,w2,rfl,ok,R1,R2⟩:=Rep_Ed.1 Ra
 obtain⟨w3,w4,rfl,ok2,R3,R4⟩:=Rep_Ed.1 Rb
 have G1:Rep h (.agg #[.int .i64 x.guard.kind,.int .i64 x.guard.val,w1]) x.guard:=Rep_Exq.2 ⟨w1,rfl,ok.gk,ok.gv,R1⟩
 have G2:Rep h (.agg #[.int .i64 x.value.kind,.int .i64 x.value.val,w2]) x.value:=Rep_Exq.2 ⟨w2,rfl,ok.vk,ok.vv,R2⟩
 have G3:Rep h (.agg #[.int .i64 y.guard.kind,.int .i64 y.guard.val,w3]) y.guard:=Rep_Exq.2 ⟨w3,rfl,ok2.gk,ok2.gv,R3⟩
 have G4:Rep h (.agg #[.int .i64 y.value.kind,.int .i64 y.value.val,w4]) y.value:=Rep_Exq.2 ⟨w4,rfl,ok2.vk,ok2.vv,R4⟩
 refine CallE.gen fun k hk=>EN_laws_eqEdge rfl ?_
 simp -implicitDefEqProofs (disch:=first|omega|(simp only[LnZ];omega))[wrap64,Ed.cs]
 refine IteW.mkr (fun h1=>?_) (fun h1=>?_)
 ·simp -implicitDefEqProofs (disch:=omega)[wrap64]
  exact RetK.keep (hk _ _ ⟨rfl,by simp[Ed.ext_iff',h1]⟩)
 simp -implicitDefEqProofs (disch:=first|omega|(simp only[LnZ];omega))[wrap64,Ed.cs]
 refine IteW.mkr (fun h2=>?_) (fun h2=>?_)
 ·simp -implicitDefEqProofs (disch:=omega)[wrap64]
  exact RetK.keep (hk _ _ ⟨rfl,by simp[Ed.ext_iff',h2]⟩)
 simp -implicitDefEqProofs (disch:=first|omega|(simp only[LnZ];omega))[wrap64,Ed.cs]
 refine (c_eqExpr G1 G3).go ?_
 rintro _ _ ⟨rfl,rfl⟩
 simp -implicitDefEqProofs (disch:=first|omega|(simp only[LnZ];omega))[wrap64,Ed.cs]
 refine IteW.mkr (fun h3=>?_) (fun h3=>?_)
 ·simp -implicitDefEqProofs (disch:=omega)[wrap64]
  exact RetK.keep (hk _ _ ⟨rfl,by simp[Ed.ext_iff',h3]⟩)
 simp -implicitDefEqProofs (disch:=first|omega|(simp only[LnZ];omega))[wrap64,Ed.cs]
 refine IteW.mkr (fun h4=>?_) (fun h4=>?_)
 ·simp -implicitDefEqProofs (disch:=omega)[wrap64]
  exact RetK.keep (hk _ _ ⟨rfl,by simp[Ed.ext_iff',h4]⟩)
 simp -implicitDefEqProofs (disch:=first|omega|(simp only[LnZ];omega))[wrap64,Ed.cs]
 refine (c_eqExpr G2 G4).go ?_
 rintro _ _ ⟨rfl,rfl⟩
 simp -implicitDefEqProofs (disch:=first|omega|(simp only[LnZ];omega))[wrap64,Ed.cs]
 refine IteW.mkr (fun h5=>?_) (fun h5=>?_)
 ·simp -implicitDefEqProofs (disch:=omega)[wrap64]
  exact RetK.keep (hk _ _ ⟨rfl,by simp[Ed.ext_iff',h5]⟩)
 simp -implicitDefEqProofs (disch:=first|omega|(simp only[LnZ];omega))[wrap64,Ed.cs]
 refine IteW.mkr (fun h6=>?_) (fun h6=>?_)
 ·simp -implicitDefEqProofs (disch:=omega)[wrap64]
  exact RetK.keep (hk _ _ ⟨rfl,by simp[Ed.ext_iff',h6]⟩)
 simp -implicitDefEqProofs (disch:=omega)[wrap64]
 exact RetK.keep (hk _ _ ⟨rfl,by simp[Ed.ext_iff',h1,h2,h3,h4,h5,h6]⟩)
theorem c_eqEdgeS {h:Heap}{a b:Value}{x y:List Ed}(Ra:Rep h a x) (Rb:Rep h b y):CallE Try.prog fn_laws_eqEdgeS [a,b] h (fun v h'=>h'=h∧v=.bool (decide (x=y))):=by
 refine CallE.gen fun k hk=>EN_laws_eqEdgeS rfl ?_
 have hL:=Ra.lt
 simp -implicitDefEqProofs (disch:=first|omega|(simp only[LnZ];omega))[wrap64,Ra.len,Rb.len]
 refine IteW.mkr (fun hne=>?_) (fun heq=>?_)
 ·simp -implicitDefEqProofs (disch:=omega)[wrap64]
  exact RetK.keep (hk _ _ ⟨rfl,by simp;rintro rfl;exact hne rfl⟩)
 simp -implicitDefEqProofs (disch:=omega)[wrap64]
 refine wp_count x.length (fun i e h'=>h'=h∧e=[some a,some b,none,some (.int .i64 i)]∧x.take i=y.take i) ⟨rfl,rfl,rfl⟩ ?_
 rintro J i _ _ hJ hi ⟨rfl,rfl,hxy⟩
 simp -implicitDefEqProofs (disch:=first|omega|(simp only[LnZ];omega))[wrap64,Ra.len]
 refine IteW.mk (fun hlt=>?_) (fun hge=>?_)
 ·have hly:i<y.length:=by omega
  have hlx:i<x.length:=by omega
  obtain⟨u,hu,Ru⟩:=Ra.ld hlx
  obtain⟨w,hw,Rw⟩:=Rb.ld hly
  change hload _ (some (elp 10 a i)) (some 10)=some u at hu
  change hload _ (some (elp 10 b i)) (some 10)=some w at hw
  simp -implicitDefEqProofs (disch:=first|omega|(simp only[LnZ];omega))[wrap64,Ra.X (n:=10) rfl,Rb.X (n:=10) rfl,hu,hw]
  refine (c_eqEdge Ru Rw).go ?_
  rintro _ _ ⟨rfl,rfl⟩
  simp -implicitDefEqProofs (disch:=omega)[wrap64]
  refine IteW.mkr (fun hne=>?_) (fun heq=>?_)
  ·simp -implicitDefEqProofs (disch:=omega)[wrap64]
   exact RetK.keep (hk _ _ ⟨rfl,by simp;rintro rfl;exact hne rfl⟩)
  simp -implicitDefEqProofs (disch:=omega)[wrap64]
  exact hJ _ _ hlx ⟨rfl,rfl,take_step hxy hlx hly heq⟩
 ·simp -implicitDefEqProofs (disch:=omega)[wrap64]
  refine RetK.keep (hk _ _ ⟨rfl,?_⟩)
  simp
  rw[List.take_of_length_le (by omega),List.take_of_length_le (by omega)] at hxy
  exact hxy
theorem c_eqProcess {x y:Pr}{h:Heap}{a b:Value}(Ra:Rep h a x) (Rb:Rep h b y):CallE Try.prog fn_laws_eqProcess [a,b] h (fun v h'=>h'=h∧v=.bool (decide (x=y))):=by
 obtain⟨w,rfl,k1,R1⟩:=Rep_Pr.1 Ra
 obtain⟨w2,rfl,k3,R2⟩:=Rep_Pr.1 Rb
 refine CallE.gen fun k hk=>EN_laws_eqProcess rfl ?_
 simp -implicitDefEqProofs (disch:=omega)[wrap64]
 refine IteW.mkr (fun h1=>?_) (fun h1=>?_)
 ·simp -implicitDefEqProofs (disch:=omega)[wrap64]
  exact RetK.keep (hk _ _ ⟨rfl,by simp[Pr.ext_iff',h1]⟩)
 simp -implicitDefEqProofs (disch:=omega)[wrap64]
 refine (c_eqEdgeS R1 R2).go ?_
 rintro _ _ ⟨rfl,rfl⟩
 simp -implicitDefEqProofs (disch:=omega)[wrap64]
 refine IteW.mkr (fun h3=>?_) (fun h3=>?_)
 ·simp -implicitDefEqProofs (disch:=omega)[wrap64]
  exact RetK.keep (hk _ _ ⟨rfl,by simp[Pr.ext_iff',h3]⟩)
 simp -implicitDefEqProofs (disch:=omega)[wrap64]
 exact RetK.keep (hk _ _ ⟨rfl,by simp[Pr.ext_iff',h1,h3]⟩)
theorem c_eqProcessS {h:Heap}{a b:Value}{x y:List Pr}(Ra:Rep h a x) (Rb:Rep h b y):CallE Try.prog fn_laws_eqProcessS [a,b] h (fun v h'=>h'=h∧v=.bool (decide (x=y))):=by
 refine CallE.gen fun k hk=>EN_laws_eqProcessS rfl ?_
 have hL:=Ra.lt
 simp -implicitDefEqProofs (disch:=first|omega|(simp only[LnZ];omega))[wrap64,Ra.len,Rb.len]
 refine IteW.mkr (fun hne=>?_) (fun heq=>?_)
 ·simp -implicitDefEqProofs (disch:=omega)[wrap64]
  exact RetK.keep (hk _ _ ⟨rfl,by simp;rintro rfl;exact hne rfl⟩)
 simp -implicitDefEqProofs (disch:=omega)[wrap64]
 refine wp_count x.length (fun i e h'=>h'=h∧e=[some a,some b,none,some (.int .i64 i)]∧x.take i=y.take i) ⟨rfl,rfl,rfl⟩ ?_
 rintro J i _ _ hJ hi ⟨rfl,rfl,hxy⟩
 simp -implicitDefEqProofs (disch:=first|omega|(simp only[LnZ];omega))[wrap64,Ra.len]
 refine IteW.mk (fun hlt=>?_) (fun hge=>?_)
 ·have hly:i<y.length:=by omega
  have hlx:i<x.length:=by omega
  obtain⟨u,hu,Ru⟩:=Ra.ld hlx
  obtain⟨w,hw,Rw⟩:=Rb.ld hly
  change hload _ (some (elp 2 a i)) (some 2)=some u at hu
  change hload _ (some (elp 2 b i)) (some 2)=some w at hw
  simp -implicitDefEqProofs (disch:=first|omega|(simp only[LnZ];omega))[wrap64,Ra.X (n:=2) rfl,Rb.X (n:=2) rfl,hu,hw]
  refine (c_eqProcess Ru Rw).go ?_
  rintro _ _ ⟨rfl,rfl⟩
  simp -implicitDefEqProofs (disch:=omega)[wrap64]
  refine IteW.mkr (fun hne=>?_) (fun heq=>?_)
  ·simp -implicitDefEqProofs (disch:=omega)[wrap64]
   exact RetK.keep (hk _ _ ⟨rfl,by simp;rintro rfl;exact hne rfl⟩)
  simp -implicitDefEqProofs (disch:=omega)[wrap64]
  exact hJ _ _ hlx ⟨rfl,rfl,take_step hxy hlx hly heq⟩
 ·simp -implicitDefEqProofs (disch:=omega)[wrap64]
  refine RetK.keep (hk _ _ ⟨rfl,?_⟩)
  simp
  rw[List.take_of_length_le (by omega),List.take_of_length_le (by omega)] at hxy
  exact hxy
theorem c_eqSystem {h:Heap}{a b:Value}{x y:Sy}(Ra:Rep h a x) (Rb:Rep h b y):CallE Try.prog fn_laws_eqSystem [a,b] h (fun v h'=>h'=h∧v=.bool (decide (x=y))):=by
 obtain⟨v1,v2,rfl,R1,R2⟩:=Rep_Sy.1 Ra
 obtain⟨w1,w2,rfl,S1,S2⟩:=Rep_Sy.1 Rb
 refine CallE.gen fun k hk=>EN_laws_eqSystem rfl ?_
 simp -implicitDefEqProofs (disch:=omega)[wrap64]
 refine (c_eqIntS R1 S1).go ?_
 rintro _ _ ⟨rfl,rfl⟩
 simp -implicitDefEqProofs (disch:=omega)[wrap64]
 refine IteW.mkr (fun h1=>?_) (fun h1=>?_)
 ·simp -implicitDefEqProofs (disch:=omega)[wrap64]
  exact RetK.keep (hk _ _ ⟨rfl,by simp_all [Sy.ext_iff']⟩)
 simp -implicitDefEqProofs (disch:=omega)[wrap64]
 refine (c_eqProcessS R2 S2).go ?_
 rintro _ _ ⟨rfl,rfl⟩
 simp -implicitDefEqProofs (disch:=omega)[wrap64]
 refine IteW.mkr (fun h2=>?_) (fun h2=>?_)
 ·simp -implicitDefEqProofs (disch:=omega)[wrap64]
  exact RetK.keep (hk _ _ ⟨rfl,by simp_all [Sy.ext_iff']⟩)
 try simp -implicitDefEqProofs (disch:=omega)[wrap64]
 exact RetK.keep (hk _ _ ⟨rfl,by simp_all [Sy.ext_iff']⟩)
theorem c_IndexFunc_int {h:Heap}{a fv:Value}{x:List (Int)}(Ra:Rep h a x) {f:FuncId}{c1 c2:List Value}(hf:fnOf fv=some (f,c1,c2)) (p:(Int)→Bool)
  (hp:∀h1,h.le h1→∀(i:Nat) (hi:i<x.length) (u:Value),Rep h1 u x[i]→CallE Try.prog f (c1++u::c2) h1 (fun v h'=>h1.le h'∧v=.bool (p x[i]))) :
  CallE Try.prog fn_slices_IndexFunc_S_int_int [a,fv] h (fun v h'=>h.le h'∧v=.int .i64 (match x.findIdx? p with | some i=>(i:Int) | none=>-1)):=by
 refine CallE.gen fun k hk=>EN_slices_IndexFunc_S_int_int rfl ?_
 have hL:=Ra.lt
 simp -implicitDefEqProofs (disch:=first|omega|(simp only[LnZ];omega))[wrap64,Ra.len]
 refine wp_count x.length (fun i e h'=>e=[some a,some fv,none,none,some (.int .i64 x.length),some (.int .i64 i)]∧h.le h'∧∀(j:Nat) (hj:j<x.length),j<i→p x[j]=false) ⟨rfl,Heap.le.refl h,fun j _ hj=>absurd hj (Nat.not_lt_zero j)⟩ ?_
 rintro J i _ h1 hJ hi ⟨rfl,hl,hn⟩
 simp -implicitDefEqProofs (disch:=omega)[wrap64]
 refine IteW.mk (fun hlt=>?_) (fun hge=>?_)
 ·have hlx:i<x.length:=by omega
  obtain⟨u,hu,Ru⟩:=(Ra.le hl).ld hlx
  change hload _ (some (elp 1 a i)) none=some u at hu
  simp -implicitDefEqProofs (disch:=first|omega|(simp only[LnZ];omega))[wrap64,(Ra.le hl).X (n:=1) rfl,hu,hf]
  refine (hp h1 hl i hlx u Ru).go ?_
  rintro _ h2 ⟨hl2,rfl⟩
  simp -implicitDefEqProofs (disch:=omega)[wrap64]
  refine IteW.mk (fun hq=>?_) (fun hq=>?_)
  ·simp -implicitDefEqProofs (disch:=omega)[wrap64]
   refine RetK.keep (hk _ _ ⟨hl.trans hl2,?_⟩)
   have h3:x.findIdx? p=some i:=by
    rw[List.findIdx?_eq_some_iff_getElem]
    exact⟨hlx,hq,fun j hj=>by rw[hn j (by omega) hj];simp⟩
   rw[h3]
  ·simp -implicitDefEqProofs (disch:=omega)[wrap64]
   refine hJ _ _ hlx ⟨rfl,hl.trans hl2,fun j hj hji=>?_⟩
   by_cases hji2:j=i
   ·subst hji2;simpa using hq
   ·exact hn j hj (by omega)
 ·simp -implicitDefEqProofs (disch:=omega)[wrap64]
  refine RetK.keep (hk _ _ ⟨hl,?_⟩)
  have h3:x.findIdx? p=none:=by
   rw[List.findIdx?_eq_none_iff]
   intro y hy
   obtain⟨j,hj,rfl⟩:=List.mem_iff_getElem.1 hy
   exact hn j hj (by omega)
  rw[h3]
theorem c_ContainsFunc_int {h:Heap}{a fv:Value}{x:List (Int)}(Ra:Rep h a x) {f:FuncId}{c1 c2:List Value}(hf:fnOf fv=some (f,c1,c2)) (p:(Int)→Bool)
  (hp:∀h1,h.le h1→∀(i:Nat) (hi:i<x.length) (u:Value),Rep h1 u x[i]→CallE Try.prog f (c1++u::c2) h1 (fun v h'=>h1.le h'∧v=.bool (p x[i]))) :
  CallE Try.prog fn_slices_ContainsFunc_S_int_int [a,fv] h (fun v h'=>h.le h'∧v=.bool (x.any p)):=by
 refine CallE.gen fun k hk=>EN_slices_ContainsFunc_S_int_int rfl ?_
 simp -implicitDefEqProofs (disch:=omega)[wrap64]
 refine (c_IndexFunc_int Ra hf p hp).go ?_
 rintro _ h1 ⟨hl,rfl⟩
 simp -implicitDefEqProofs (disch:=omega)[wrap64]
 refine RetK.keep (hk _ _ ⟨hl,?_⟩)
 congr 1
 rw[← List.findIdx?_isSome]
 cases x.findIdx? p<;>simp
@[simp] theorem nilcV_ptr {a:Addr}:nilcV (.pointer (some a))=some (.pointer (some a)):=rfl
theorem c_in {h:Heap}{n lo hi:Int}:CallE Try.prog fn_impl_in [.int .i64 n,.int .i64 lo,.int .i64 hi] h (fun u h'=>h'=h∧u=.bool (decide (lo≤n∧n≤hi))):=by
 refine CallE.gen fun k hk=>EN_impl_in rfl ?_
 by_cases h1:lo≤n
 ·simp -implicitDefEqProofs (disch:=first|omega|(simp only[LnZ];omega))[wrap64,h1]
  exact RetK.keep (hk _ _ ⟨rfl,by simp[h1]⟩)
 ·simp -implicitDefEqProofs (disch:=first|omega|(simp only[LnZ];omega))[wrap64,h1]
  exact RetK.keep (hk _ _ ⟨rfl,by simp[h1]⟩)
def WalkQ (g:Heap) (Γ:List HP) (b n m:Nat) (x:Exq) (neg:Bool) (v:Value) (h':Heap):Prop:=
 ∃(n':Nat) (ok:Bool),v=.bool (ok != neg)∧HS g (bx b [.int .i64 n']::Γ) h'∧(ok=true↔x.Shp m∧n+x.nod≤15)∧(ok=true→n'=n+x.nod)
theorem c_IndexFunc_walk {g h:Heap}{Γ:List HP}{a fv:Value}{l:List Exq}{b n m:Nat}(Ra:Rep g a l) {f:FuncId}{c1 c2:List Value}(hf:fnOf fv=some (f,c1,c2)) (H:HS g (bx b [.int .i64 n]::Γ) h) (hn:n≤15)
  (hp:∀(i:Nat) (hi:i<l.length) (u:Value) (n:Nat) (h1:Heap),Rep g u l[i]→HS g (bx b [.int .i64 n]::Γ) h1→n≤15→CallE Try.prog f (c1++u::c2) h1 (WalkQ g Γ b n m l[i] true)) :
  CallE Try.prog fn_slices_IndexFunc_S_impl_Expr_impl_Expr [a,fv] h (fun v h'=>∃(n':Nat) (j:Int),v=.int .i64 j∧HS g (bx b [.int .i64 n']::Γ) h'∧(j<0↔(∀y∈l,y.Shp m)∧n+Exq.nods l≤15)∧(j<0→n'=n+Exq.nods l)):=by
 refine CallE.gen fun k hk=>EN_slices_IndexFunc_S_impl_Expr_impl_Expr rfl ?_
 have hL:=Ra.lt
 simp -implicitDefEqProofs (disch:=first|omega|(simp only[LnZ];omega))[wrap64,Ra.len]
 refine wp_count l.length (fun i e h'=>e=[some a,some fv,none,none,some (.int .i64 l.length),some (.int .i64 i)]∧HS g (bx b [.int .i64 ((n+Exq.nods (l.take i):Nat):Int)]::Γ) h'∧n+Exq.nods (l.take i)≤15∧∀(j:Nat) (hj:j<l.length),j<i→l[j].Shp m) ⟨rfl,by simpa[Exq.nods] using H,by simpa[Exq.nods] using hn,fun j _ hj=>absurd hj (Nat.not_lt_zero j)⟩ ?_
 clear H
 rintro J i _ h1 hJ hi ⟨rfl,H,hle,hall⟩
 simp -implicitDefEqProofs (disch:=omega)[wrap64]
 refine IteW.mk (fun hlt=>?_) (fun hge=>?_)
 ·have hlx:i<l.length:=by omega
  have hnt:=Exq.nods_take hlx
  have hnl:=Exq.nods_le l (i+1)
  obtain⟨u,hu,Ru⟩:=Ra.ld hlx
  have hu2:=hload_le H.base hu
  change hload _ (some (elp 3 a i)) (some 3)=some u at hu2
  simp -implicitDefEqProofs (disch:=first|omega|(simp only[LnZ];omega))[wrap64,Ra.X (n:=3) rfl,hu2,hf]
  refine (hp i hlx u _ h1 Ru H hle).go ?_
  rintro _ h2 ⟨n',ok,rfl,H,hok,hn'⟩
  simp -implicitDefEqProofs (disch:=omega)[wrap64]
  refine IteW.mk (fun hq=>?_) (fun hq=>?_)
  ·simp -implicitDefEqProofs (disch:=omega)[wrap64]
   refine RetK.keep (hk _ _ ⟨n',_,rfl,H,⟨fun hh=>absurd hh (by omega),fun ⟨e1,e2⟩=>?_⟩,fun hh=>absurd hh (by omega)⟩)
   have:ok=true:=hok.2 ⟨e1 _ (List.getElem_mem hlx),by omega⟩
   rw[this] at hq
   simp at hq
  ·have hok1:ok=true:=by simpa using hq
   have e1:=hok.1 hok1
   have e2:=hn' hok1
   subst e2
   simp -implicitDefEqProofs (disch:=omega)[wrap64]
   refine hJ _ _ hlx ⟨rfl,?_,by omega,fun j hj hji=>?_⟩
   ·rw[hnt,← Nat.add_assoc];exact H
   ·by_cases hji2:j=i
    ·subst hji2;exact e1.1
    ·exact hall j hj (by omega)
 ·simp -implicitDefEqProofs (disch:=omega)[wrap64]
  rw[List.take_of_length_le (by omega)] at H hle
  refine RetK.keep (hk _ _ ⟨_,_,rfl,H,⟨fun _=>⟨fun y hy=>?_,hle⟩,fun _=>by omega⟩,fun _=>rfl⟩)
  obtain⟨j,hj,rfl⟩:=List.mem_iff_getElem.1 hy
  exact hall j hj (by omega)
theorem c_ContainsFunc_walk {g h:Heap}{Γ:List HP}{a fv:Value}{l:List Exq}{b n m:Nat}(Ra:Rep g a l) {f:FuncId}{c1 c2:List Value}(hf:fnOf fv=some (f,c1,c2)) (H:HS g (bx b [.int .i64 n]::Γ) h) (hn:n≤15)
  (hp:∀(i:Nat) (hi:i<l.length) (u:Value) (n:Nat) (h1:Heap),Rep g u l[i]→HS g (bx b [.int .i64 n]::Γ) h1→n≤15→CallE Try.prog f (c1++u::c2) h1 (WalkQ g Γ b n m l[i] true)) :
  CallE Try.prog fn_slices_ContainsFunc_S_impl_Expr_impl_Expr [a,fv] h (fun v h'=>∃(n':Nat) (ok:Bool),v=.bool (!ok)∧HS g (bx b [.int .i64 n']::Γ) h'∧(ok=true↔(∀y∈l,y.Shp m)∧n+Exq.nods l≤15)∧(ok=true→n'=n+Exq.nods l)):=by
 refine CallE.gen fun k hk=>EN_slices_ContainsFunc_S_impl_Expr_impl_Expr rfl ?_
 simp -implicitDefEqProofs (disch:=omega)[wrap64]
 refine (c_IndexFunc_walk Ra hf H hn hp).go ?_
 rintro _ h1 ⟨n',j,rfl,H,hj,hn'⟩
 simp -implicitDefEqProofs (disch:=omega)[wrap64]
 refine RetK.keep (hk _ _ ⟨n',decide (j<0),?_,H,by rw[decide_eq_true_iff];exact hj,by rw[decide_eq_true_iff];exact hn'⟩)
 congr 1
 by_cases e:j<0
 ·simp[e]
 ·simp[e];omega
theorem c_walk:∀(x:Exq) {g h:Heap}{Γ:List HP}{v:Value}{b n d:Nat}{dv:Int},dv=d→Rep g v x→HS g (bx b [.int .i64 n]::Γ) h→n≤15→1≤d→d≤7 →
  CallE Try.prog fn_impl_Expr_walk [v,.int .i64 dv,.pointer (some ⟨b,0,none⟩)] h (WalkQ g Γ b n (7-d) x false):=by
 refine Exq.ind fun x ih g h Γ v b n d dv hdv R H hn hd1 hd7=>?_
 obtain⟨w,rfl,k1,k2,R1⟩:=Rep_Exq.1 R
 have hnod:=x.nod_eq
 have hkl:=R1.lt
 obtain⟨ln,hln⟩:∃ln:Int,ln=x.kids.length:=⟨_,rfl⟩
 have hlen:=R1.len
 rw[← hln] at hlen
 refine CallE.gen fun k hk=>EN_impl_Expr_walk rfl ?_
 simp -implicitDefEqProofs (disch:=omega)[wrap64]
 refine H.alloc rfl fun b4 h1 H=>?_
 simp -implicitDefEqProofs (disch:=omega)[wrap64]
 refine H.alloc rfl fun b5 h2 H=>?_
 simp only[cells_int,cells_pointer] at H
 simp -implicitDefEqProofs (disch:=first|omega|(simp only[LnZ];omega))[wrap64,H.bxld0,H.sw2.bxld0]
 refine HS.bxst (o:=0) (sz:=1) (u:=.int .i64 ((n:Int)+1)) H.sw2 rfl rfl rfl rfl (by simp) fun h3 H=>?_
 have H:HS g (bx b [.int .i64 ((n+1:Nat):Int)]::bx b5 [.pointer (some ⟨b,0,none⟩)]::bx b4 [.int .i64 dv]::Γ) h3:=H
 -- what is wanted where it fails
 have hno:¬(x.Shp (7-d)∧n+x.nod≤15)→k (.bool false) h3:=fun hh=>hk _ _ ⟨_,false,rfl,H.sw1.drop.sw1.drop,⟨fun e=>by simp at e,fun e=>absurd e hh⟩,fun e=>by simp at e⟩
 -- and where the operands were asked
 have hfin:x.Nd→d≤6→∀{h4:Heap}{n':Nat}{ok:Bool},(ok=true↔(∀y∈x.kids,y.Shp (6-d))∧n+1+Exq.nods x.kids≤15)→(ok=true→n'=n+1+Exq.nods x.kids) →
   HS g (bx b [.int .i64 n']::bx b5 [.pointer (some ⟨b,0,none⟩)]::bx b4 [.int .i64 dv]::Γ) h4→k (.bool ok) h4:=by
  intro hnd hd6 h4 n' ok g1 g2 H4
  refine hk _ _ ⟨n',ok,by simp,H4.sw1.drop.sw1.drop,?_,fun e=>by have:=g2 e;omega⟩
  rw[g1,show 7-d=(6-d)+1 by omega]
  exact⟨fun ⟨h5,h6⟩=>⟨⟨hnd,h5⟩,by omega⟩,fun ⟨h5,h6⟩=>⟨h5.2,by omega⟩⟩
 -- an operand
 have hkid:d≤6→∀(i:Nat) (hi:i<x.kids.length) (u:Value) (n:Nat) (h1:Heap),Rep g u x.kids[i]→HS g (bx b [.int .i64 n]::bx b5 [.pointer (some ⟨b,0,none⟩)]::bx b4 [.int .i64 dv]::Γ) h1→n≤15 →
   CallE Try.prog fn_impl_Expr_walk_1 ([]++u::[.pointer (some ⟨b4,0,none⟩),.pointer (some ⟨b5,0,none⟩)]) h1 (WalkQ g (bx b5 [.pointer (some ⟨b,0,none⟩)]::bx b4 [.int .i64 dv]::Γ) b n (6-d) x.kids[i] true):=by
  intro hd6 i hi u n h1 Ru H hn
  refine CallE.gen fun k hk=>EN_impl_Expr_walk_1 rfl ?_
  have Fu:=Ru.aExq
  simp -implicitDefEqProofs (disch:=first|omega|(simp only[LnZ];omega))[wrap64,Fu,H.sw2.bxld0,H.sw1.bxld0]
  refine (ih _ (List.getElem_mem hi) (d:=d+1) (dv:=dv+1) (by omega) Ru H hn (by omega) (by omega)).go ?_
  rintro _ h2 ⟨n',ok,rfl,H,g1,g2⟩
  rw[show 7-(d+1)=6-d by omega] at g1
  simp -implicitDefEqProofs (disch:=omega)[wrap64]
  exact RetK.keep (hk _ _ ⟨n',ok,by simp,H,g1,g2⟩)
 by_cases c1:x.kind=1
 ·revert hno hfin
  intro hno hfin
  by_cases e1:(6:Int)<dv
  ·simp -implicitDefEqProofs (disch:=first|omega|(simp only[LnZ];omega))[wrap64,c1,H.bxld0,H.sw1.bxld0,H.sw2.bxld0,e1]
   exact RetK.keep (hno fun hh=>by have:=hh.1;rw[show 7-d=0 by omega] at this;exact this)
  by_cases e2:(15:Int)<(n:Int)+1
  ·simp -implicitDefEqProofs (disch:=first|omega|(simp only[LnZ];omega))[wrap64,c1,H.bxld0,H.sw1.bxld0,H.sw2.bxld0,e1,e2]
   exact RetK.keep (hno fun hh=>by have:=hh.2;omega)
  simp -implicitDefEqProofs (disch:=first|omega|(simp only[LnZ];omega))[wrap64,c1,H.bxld0,H.sw1.bxld0,H.sw2.bxld0,e1,e2]
  refine c_in.go ?_
  rintro _ _ ⟨rfl,rfl⟩
  have e3:1≤x.kind∧x.kind≤9:=by omega
  have e6:=e3
  simp -implicitDefEqProofs (disch:=first|omega|(simp only[LnZ];omega))[wrap64,c1,e3]
  refine c_in.go ?_
  rintro _ _ ⟨rfl,rfl⟩
  by_cases e4:0≤x.val∧x.val≤3
  case neg=>
   simp -implicitDefEqProofs (disch:=first|omega|(simp only[LnZ];omega))[wrap64,c1,e4]
   exact RetK.keep (hno fun hh=>e4 ⟨hh.1.nd.lo,by have:=hh.1.nd.hi;simpa[Exq.most,c1] using this⟩)
  simp -implicitDefEqProofs (disch:=first|omega|(simp only[LnZ];omega))[wrap64,c1,e4,hlen]
  by_cases e5:ln=0
  case neg=>
   simp -implicitDefEqProofs (disch:=first|omega|(simp only[LnZ];omega))[wrap64,c1,e5,hlen]
   exact RetK.keep (hno fun hh=>e5 (by have:=hh.1.nd.ar;rw[← hln] at this;simpa[Exq.arity,c1,e3,e6] using this))
  simp -implicitDefEqProofs (disch:=first|omega|(simp only[LnZ];omega))[wrap64,c1,e5,hlen]
  refine (c_ContainsFunc_walk (m:=6-d) R1 (c1:=[]) (c2:=[.pointer (some ⟨b4,0,none⟩),.pointer (some ⟨b5,0,none⟩)]) rfl H (by omega) (hkid (by omega))).go ?_
  rintro _ h4 ⟨n',ok,rfl,H4,g1,g2⟩
  simp -implicitDefEqProofs (disch:=omega)[wrap64]
  exact RetK.keep (hfin ⟨by rw[← hln];simp only[Exq.arity,c1];simpa[e3,e6] using e5,e4.1,by simp only[Exq.most,c1];simpa using e4.2⟩ (by omega) g1 g2 H4)
 by_cases c2:x.kind=2
 ·revert hno hfin
  intro hno hfin
  by_cases e1:(6:Int)<dv
  ·simp -implicitDefEqProofs (disch:=first|omega|(simp only[LnZ];omega))[wrap64,c1,c2,H.bxld0,H.sw1.bxld0,H.sw2.bxld0,e1]
   exact RetK.keep (hno fun hh=>by have:=hh.1;rw[show 7-d=0 by omega] at this;exact this)
  by_cases e2:(15:Int)<(n:Int)+1
  ·simp -implicitDefEqProofs (disch:=first|omega|(simp only[LnZ];omega))[wrap64,c1,c2,H.bxld0,H.sw1.bxld0,H.sw2.bxld0,e1,e2]
   exact RetK.keep (hno fun hh=>by have:=hh.2;omega)
  simp -implicitDefEqProofs (disch:=first|omega|(simp only[LnZ];omega))[wrap64,c1,c2,H.bxld0,H.sw1.bxld0,H.sw2.bxld0,e1,e2]
  refine c_in.go ?_
  rintro _ _ ⟨rfl,rfl⟩
  have e3:1≤x.kind∧x.kind≤9:=by omega
  have e6:=e3
  simp -implicitDefEqProofs (disch:=first|omega|(simp only[LnZ];omega))[wrap64,c1,c2,e3]
  refine c_in.go ?_
  rintro _ _ ⟨rfl,rfl⟩
  by_cases e4:0≤x.val∧x.val≤2
  case neg=>
   simp -implicitDefEqProofs (disch:=first|omega|(simp only[LnZ];omega))[wrap64,c1,c2,e4]
   exact RetK.keep (hno fun hh=>e4 ⟨hh.1.nd.lo,by have:=hh.1.nd.hi;simpa[Exq.most,c1,c2] using this⟩)
  simp -implicitDefEqProofs (disch:=first|omega|(simp only[LnZ];omega))[wrap64,c1,c2,e4,hlen]
  by_cases e5:ln=0
  case neg=>
   simp -implicitDefEqProofs (disch:=first|omega|(simp only[LnZ];omega))[wrap64,c1,c2,e5,hlen]
   exact RetK.keep (hno fun hh=>e5 (by have:=hh.1.nd.ar;rw[← hln] at this;simpa[Exq.arity,c1,c2,e3,e6] using this))
  simp -implicitDefEqProofs (disch:=first|omega|(simp only[LnZ];omega))[wrap64,c1,c2,e5,hlen]
  refine (c_ContainsFunc_walk (m:=6-d) R1 (c1:=[]) (c2:=[.pointer (some ⟨b4,0,none⟩),.pointer (some ⟨b5,0,none⟩)]) rfl H (by omega) (hkid (by omega))).go ?_
  rintro _ h4 ⟨n',ok,rfl,H4,g1,g2⟩
  simp -implicitDefEqProofs (disch:=omega)[wrap64]
  exact RetK.keep (hfin ⟨by rw[← hln];simp only[Exq.arity,c1,c2];simpa[e3,e6] using e5,e4.1,by simp only[Exq.most,c1,c2];simpa using e4.2⟩ (by omega) g1 g2 H4)
 by_cases c3:x.kind=3
 ·revert hno hfin
  intro hno hfin
  by_cases e1:(6:Int)<dv
  ·simp -implicitDefEqProofs (disch:=first|omega|(simp only[LnZ];omega))[wrap64,c1,c2,c3,H.bxld0,H.sw1.bxld0,H.sw2.bxld0,e1]
   exact RetK.keep (hno fun hh=>by have:=hh.1;rw[show 7-d=0 by omega] at this;exact this)
  by_cases e2:(15:Int)<(n:Int)+1
  ·simp -implicitDefEqProofs (disch:=first|omega|(simp only[LnZ];omega))[wrap64,c1,c2,c3,H.bxld0,H.sw1.bxld0,H.sw2.bxld0,e1,e2]
   exact RetK.keep (hno fun hh=>by have:=hh.2;omega)
  simp -implicitDefEqProofs (disch:=first|omega|(simp only[LnZ];omega))[wrap64,c1,c2,c3,H.bxld0,H.sw1.bxld0,H.sw2.bxld0,e1,e2]
  refine c_in.go ?_
  rintro _ _ ⟨rfl,rfl⟩
  have e3:1≤x.kind∧x.kind≤9:=by omega
  have e6:=e3
  simp -implicitDefEqProofs (disch:=first|omega|(simp only[LnZ];omega))[wrap64,c1,c2,c3,e3]
  refine c_in.go ?_
  rintro _ _ ⟨rfl,rfl⟩
  by_cases e4:0≤x.val∧x.val≤0
  case neg=>
   simp -implicitDefEqProofs (disch:=first|omega|(simp only[LnZ];omega))[wrap64,c1,c2,c3,e4]
   exact RetK.keep (hno fun hh=>e4 ⟨hh.1.nd.lo,by have:=hh.1.nd.hi;simpa[Exq.most,c1,c2,c3] using this⟩)
  simp -implicitDefEqProofs (disch:=first|omega|(simp only[LnZ];omega))[wrap64,c1,c2,c3,e4,hlen]
  by_cases e5:ln=1
  case neg=>
   simp -implicitDefEqProofs (disch:=first|omega|(simp only[LnZ];omega))[wrap64,c1,c2,c3,e5,hlen]
   exact RetK.keep (hno fun hh=>e5 (by have:=hh.1.nd.ar;rw[← hln] at this;simpa[Exq.arity,c1,c2,c3,e3,e6] using this))
  simp -implicitDefEqProofs (disch:=first|omega|(simp only[LnZ];omega))[wrap64,c1,c2,c3,e5,hlen]
  refine (c_ContainsFunc_walk (m:=6-d) R1 (c1:=[]) (c2:=[.pointer (some ⟨b4,0,none⟩),.pointer (some ⟨b5,0,none⟩)]) rfl H (by omega) (hkid (by omega))).go ?_
  rintro _ h4 ⟨n',ok,rfl,H4,g1,g2⟩
  simp -implicitDefEqProofs (disch:=omega)[wrap64]
  exact RetK.keep (hfin ⟨by rw[← hln];simp only[Exq.arity,c1,c2,c3];simpa[e3,e6] using e5,e4.1,by simp only[Exq.most,c1,c2,c3];simpa using e4.2⟩ (by omega) g1 g2 H4)
 by_cases e1:(6:Int)<dv
 ·simp -implicitDefEqProofs (disch:=first|omega|(simp only[LnZ];omega))[wrap64,c1,c2,c3,H.bxld0,H.sw1.bxld0,H.sw2.bxld0,e1]
  exact RetK.keep (hno fun hh=>by have:=hh.1;rw[show 7-d=0 by omega] at this;exact this)
 by_cases e2:(15:Int)<(n:Int)+1
 ·simp -implicitDefEqProofs (disch:=first|omega|(simp only[LnZ];omega))[wrap64,c1,c2,c3,H.bxld0,H.sw1.bxld0,H.sw2.bxld0,e1,e2]
  exact RetK.keep (hno fun hh=>by have:=hh.2;omega)
 simp -implicitDefEqProofs (disch:=first|omega|(simp only[LnZ];omega))[wrap64,c1,c2,c3,H.bxld0,H.sw1.bxld0,H.sw2.bxld0,e1,e2]
 refine c_in.go ?_
 rintro _ _ ⟨rfl,rfl⟩
 by_cases e3:1≤x.kind∧x.kind≤9
 case neg=>
  simp -implicitDefEqProofs (disch:=first|omega|(simp only[LnZ];omega))[wrap64,c1,c2,c3,e3]
  exact RetK.keep (hno fun hh=>e3 hh.1.nd.kind)
 have e6:4≤x.kind:=by omega
 simp -implicitDefEqProofs (disch:=first|omega|(simp only[LnZ];omega))[wrap64,c1,c2,c3,e3]
 refine c_in.go ?_
 rintro _ _ ⟨rfl,rfl⟩
 by_cases e4:0≤x.val∧x.val≤0
 case neg=>
  simp -implicitDefEqProofs (disch:=first|omega|(simp only[LnZ];omega))[wrap64,c1,c2,c3,e4]
  exact RetK.keep (hno fun hh=>e4 ⟨hh.1.nd.lo,by have:=hh.1.nd.hi;simpa[Exq.most,c1,c2,c3] using this⟩)
 simp -implicitDefEqProofs (disch:=first|omega|(simp only[LnZ];omega))[wrap64,c1,c2,c3,e4,hlen]
 by_cases e5:ln=2
 case neg=>
  simp -implicitDefEqProofs (disch:=first|omega|(simp only[LnZ];omega))[wrap64,c1,c2,c3,e5,hlen]
  exact RetK.keep (hno fun hh=>e5 (by have:=hh.1.nd.ar;rw[← hln] at this;simpa[Exq.arity,c1,c2,c3,e3,e6] using this))
 simp -implicitDefEqProofs (disch:=first|omega|(simp only[LnZ];omega))[wrap64,c1,c2,c3,e5,hlen]
 refine (c_ContainsFunc_walk (m:=6-d) R1 (c1:=[]) (c2:=[.pointer (some ⟨b4,0,none⟩),.pointer (some ⟨b5,0,none⟩)]) rfl H (by omega) (hkid (by omega))).go ?_
 rintro _ h4 ⟨n',ok,rfl,H4,g1,g2⟩
 simp -implicitDefEqProofs (disch:=omega)[wrap64]
 exact RetK.keep (hfin ⟨by rw[← hln];simp only[Exq.arity,c1,c2,c3];simpa[e3,e6] using e5,e4.1,by simp only[Exq.most,c1,c2,c3];simpa using e4.2⟩ (by omega) g1 g2 H4)
theorem c_IndexFunc_impl_Edge {h:Heap}{a fv:Value}{x:List (Ed)}(Ra:Rep h a x) {f:FuncId}{c1 c2:List Value}(hf:fnOf fv=some (f,c1,c2)) (p:(Ed)→Bool)
  (hp:∀h1,h.le h1→∀(i:Nat) (hi:i<x.length) (u:Value),Rep h1 u x[i]→CallE Try.prog f (c1++u::c2) h1 (fun v h'=>h1.le h'∧v=.bool (p x[i]))) :
  CallE Try.prog fn_slices_IndexFunc_S_impl_Edge_impl_Edge [a,fv] h (fun v h'=>h.le h'∧v=.int .i64 (match x.findIdx? p with | some i=>(i:Int) | none=>-1)):=by
 refine CallE.gen fun k hk=>EN_slices_IndexFunc_S_impl_Edge_impl_Edge rfl ?_
 have hL:=Ra.lt
 simp -implicitDefEqProofs (disch:=first|omega|(simp only[LnZ];omega))[wrap64,Ra.len]
 refine wp_count x.length (fun i e h'=>e=[some a,some fv,none,none,some (.int .i64 x.length),some (.int .i64 i)]∧h.le h'∧∀(j:Nat) (hj:j<x.length),j<i→p x[j]=false) ⟨rfl,Heap.le.refl h,fun j _ hj=>absurd hj (Nat.not_lt_zero j)⟩ ?_
 rintro J i _ h1 hJ hi ⟨rfl,hl,hn⟩
 simp -implicitDefEqProofs (disch:=omega)[wrap64]
 refine IteW.mk (fun hlt=>?_) (fun hge=>?_)
 ·have hlx:i<x.length:=by omega
  obtain⟨u,hu,Ru⟩:=(Ra.le hl).ld hlx
  change hload _ (some (elp 10 a i)) (some 10)=some u at hu
  simp -implicitDefEqProofs (disch:=first|omega|(simp only[LnZ];omega))[wrap64,(Ra.le hl).X (n:=10) rfl,hu,hf]
  refine (hp h1 hl i hlx u Ru).go ?_
  rintro _ h2 ⟨hl2,rfl⟩
  simp -implicitDefEqProofs (disch:=omega)[wrap64]
  refine IteW.mk (fun hq=>?_) (fun hq=>?_)
  ·simp -implicitDefEqProofs (disch:=omega)[wrap64]
   refine RetK.keep (hk _ _ ⟨hl.trans hl2,?_⟩)
   have h3:x.findIdx? p=some i:=by
    rw[List.findIdx?_eq_some_iff_getElem]
    exact⟨hlx,hq,fun j hj=>by rw[hn j (by omega) hj];simp⟩
   rw[h3]
  ·simp -implicitDefEqProofs (disch:=omega)[wrap64]
   refine hJ _ _ hlx ⟨rfl,hl.trans hl2,fun j hj hji=>?_⟩
   by_cases hji2:j=i
   ·subst hji2;simpa using hq
   ·exact hn j hj (by omega)
 ·simp -implicitDefEqProofs (disch:=omega)[wrap64]
  refine RetK.keep (hk _ _ ⟨hl,?_⟩)
  have h3:x.findIdx? p=none:=by
   rw[List.findIdx?_eq_none_iff]
   intro y hy
   obtain⟨j,hj,rfl⟩:=List.mem_iff_getElem.1 hy
   exact hn j hj (by omega)
  rw[h3]
theorem c_ContainsFunc_impl_Edge {h:Heap}{a fv:Value}{x:List (Ed)}(Ra:Rep h a x) {f:FuncId}{c1 c2:List Value}(hf:fnOf fv=some (f,c1,c2)) (p:(Ed)→Bool)
  (hp:∀h1,h.le h1→∀(i:Nat) (hi:i<x.length) (u:Value),Rep h1 u x[i]→CallE Try.prog f (c1++u::c2) h1 (fun v h'=>h1.le h'∧v=.bool (p x[i]))) :
  CallE Try.prog fn_slices_ContainsFunc_S_impl_Edge_impl_Edge [a,fv] h (fun v h'=>h.le h'∧v=.bool (x.any p)):=by
 refine CallE.gen fun k hk=>EN_slices_ContainsFunc_S_impl_Edge_impl_Edge rfl ?_
 simp -implicitDefEqProofs (disch:=omega)[wrap64]
 refine (c_IndexFunc_impl_Edge Ra hf p hp).go ?_
 rintro _ h1 ⟨hl,rfl⟩
 simp -implicitDefEqProofs (disch:=omega)[wrap64]
 refine RetK.keep (hk _ _ ⟨hl,?_⟩)
 congr 1
 rw[← List.findIdx?_isSome]
 cases x.findIdx? p<;>simp
theorem c_ExprNodes {h:Heap}{v:Value}{x:Exq}(R:Rep h v x):CallE Try.prog fn_impl_ExprNodes [v] h (fun u h'=>h.le h'∧u=.int .i64 (if x.Ok then (x.nod:Int) else 0)):=by
 have F:=R.aExq
 refine CallE.gen fun k hk=>EN_impl_ExprNodes rfl ?_
 simp -implicitDefEqProofs (disch:=omega)[wrap64]
 refine HS.init.alloc rfl fun b h1 H=>?_
 simp only[cells_int] at H
 simp -implicitDefEqProofs (disch:=omega)[wrap64]
 refine HS.bxst (o:=0) (sz:=1) (u:=.int .i64 0) H rfl rfl rfl rfl (by simp) fun h2 H=>?_
 have H:HS h [bx b [.int .i64 ((0:Nat):Int)]] h2:=H
 simp -implicitDefEqProofs (disch:=first|omega|(simp only[LnZ];omega))[wrap64,F]
 refine (c_walk x (d:=1) rfl R H (by omega) (by omega) (by omega)).go ?_
 rintro _ h3 ⟨n',ok,rfl,H,g1,g2⟩
 have hok:ok=true↔x.Ok:=by rw[g1];simp[Exq.Ok]
 cases ok with
 | true=>
  have e:=g2 rfl
  have ho:=hok.1 rfl
  simp -implicitDefEqProofs (disch:=first|omega|(simp only[LnZ];omega))[wrap64,H.bxld0]
  refine RetK.keep (hk _ _ ⟨H.base,?_⟩)
  rw[if_pos ho,e];simp
 | false=>
  simp -implicitDefEqProofs (disch:=omega)[wrap64]
  refine RetK.keep (hk _ _ ⟨H.base,?_⟩)
  rw[if_neg (fun ho=>by have:=hok.2 ho;simp at this)]
theorem Exq.nod_pos (x:Exq):0<x.nod:=by rw[Exq.nod_eq];omega
theorem c_ExprValid {h:Heap}{v:Value}{x:Exq}(R:Rep h v x):CallE Try.prog fn_impl_ExprValid [v] h (fun u h'=>h.le h'∧u=.bool (decide x.Ok)):=by
 have F:=R.aExq
 have hp:=x.nod_pos
 refine CallE.gen fun k hk=>EN_impl_ExprValid rfl ?_
 simp -implicitDefEqProofs (disch:=first|omega|(simp only[LnZ];omega))[wrap64,F]
 refine (c_ExprNodes R).go ?_
 rintro _ h1 ⟨hl,rfl⟩
 simp -implicitDefEqProofs (disch:=omega)[wrap64]
 refine RetK.keep (hk _ _ ⟨hl,?_⟩)
 congr 1
 by_cases e:x.Ok
 ·simp[e];omega
 ·simp[e]
theorem c_EqualFunc_Expr {h:Heap}{a b fv:Value}{x y:List Exq}(Ra:Rep h a x) (Rb:Rep h b y) {f:FuncId}(hf:fnOf fv=some (f,[],[]))
  (hp:∀z∈x,∀{h:Heap}{a b:Value}{w:Exq},Rep h a z→Rep h b w→CallE Try.prog f [a,b] h (fun u h'=>h'=h∧u=.bool (decide (z=w)))) :
  CallE Try.prog fn_slices_EqualFunc_S_impl_Expr_S_impl_Expr_impl_Expr_impl_Expr [a,b,fv] h (fun u h'=>h'=h∧u=.bool (decide (x=y))):=by
 refine CallE.gen fun k hk=>EN_slices_EqualFunc_S_impl_Expr_S_impl_Expr_impl_Expr_impl_Expr rfl ?_
 have hL:=Ra.lt
 simp -implicitDefEqProofs (disch:=first|omega|(simp only[LnZ];omega))[wrap64,Ra.len,Rb.len]
 refine IteW.mkr (fun hne=>?_) (fun heq=>?_)
 ·simp -implicitDefEqProofs (disch:=omega)[wrap64]
  exact RetK.keep (hk _ _ ⟨rfl,by simp;rintro rfl;exact hne rfl⟩)
 simp -implicitDefEqProofs (disch:=first|omega|(simp only[LnZ];omega))[wrap64,Ra.len]
 refine wp_count x.length (fun i e h'=>h'=h∧e=[none,some b,some fv,none,none,none,none,some a,some (.int .i64 x.length),some (.int .i64 i)]∧x.take i=y.take i) ⟨rfl,by simp[heq],rfl⟩ ?_
 rintro J i _ _ hJ hi ⟨rfl,rfl,hxy⟩
 simp -implicitDefEqProofs (disch:=omega)[wrap64]
 refine IteW.mk (fun hlt=>?_) (fun hge=>?_)
 ·have hly:i<y.length:=by omega
  have hlx:i<x.length:=by omega
  obtain⟨u,hu,Ru⟩:=Ra.ld hlx
  obtain⟨w,hw,Rw⟩:=Rb.ld hly
  change hload _ (some (elp 3 a i)) (some 3)=some u at hu
  change hload _ (some (elp 3 b i)) (some 3)=some w at hw
  simp -implicitDefEqProofs (disch:=first|omega|(simp only[LnZ];omega))[wrap64,Ra.X (n:=3) rfl,Rb.X (n:=3) rfl,hu,hw,Ru.aExq,Rw.aExq,hf]
  refine (hp _ (List.getElem_mem hlx) Ru Rw).go ?_
  rintro _ _ ⟨rfl,rfl⟩
  simp -implicitDefEqProofs (disch:=omega)[wrap64]
  refine IteW.mkr (fun hne=>?_) (fun heq=>?_)
  ·simp -implicitDefEqProofs (disch:=omega)[wrap64]
   exact RetK.keep (hk _ _ ⟨rfl,by simp;rintro rfl;exact hne rfl⟩)
  simp -implicitDefEqProofs (disch:=omega)[wrap64]
  exact hJ _ _ hlx ⟨rfl,rfl,take_step hxy hlx hly heq⟩
 ·simp -implicitDefEqProofs (disch:=omega)[wrap64]
  refine RetK.keep (hk _ _ ⟨rfl,?_⟩)
  simp
  rw[List.take_of_length_le (by omega),List.take_of_length_le (by omega)] at hxy
  exact hxy
theorem c_ExprSame':∀(x:Exq) {h:Heap}{a b:Value}{y:Exq},Rep h a x→Rep h b y→CallE Try.prog fn_impl_ExprSame [a,b] h (fun u h'=>h'=h∧u=.bool (decide (x=y))):=by
 refine Exq.ind fun x ih h a b y Ra Rb=>?_
 obtain⟨w,rfl,k1,k2,R1⟩:=Rep_Exq.1 Ra
 obtain⟨w2,rfl,k3,k4,R2⟩:=Rep_Exq.1 Rb
 refine CallE.gen fun k hk=>EN_impl_ExprSame rfl ?_
 by_cases h1:x.kind=y.kind
 case neg=>
  simp -implicitDefEqProofs (disch:=first|omega|(simp only[LnZ];omega))[wrap64,h1]
  exact RetK.keep (hk _ _ ⟨rfl,by simp[Exq.ext_iff',h1]⟩)
 by_cases h2:x.val=y.val
 case neg=>
  simp -implicitDefEqProofs (disch:=first|omega|(simp only[LnZ];omega))[wrap64,h1,h2]
  exact RetK.keep (hk _ _ ⟨rfl,by simp[Exq.ext_iff',h2]⟩)
 simp -implicitDefEqProofs (disch:=first|omega|(simp only[LnZ];omega))[wrap64,h1,h2]
 refine (c_EqualFunc_Expr R1 R2 (f:=fn_impl_ExprSame) rfl ih).go ?_
 rintro _ _ ⟨rfl,rfl⟩
 simp -implicitDefEqProofs (disch:=omega)[wrap64]
 exact RetK.keep (hk _ _ ⟨rfl,by simp[Exq.ext_iff',h1,h2]⟩)
theorem c_ExprSame {x:Exq}{h:Heap}{a b:Value}{y:Exq}(Ra:Rep h a x) (Rb:Rep h b y):CallE Try.prog fn_impl_ExprSame [a,b] h (fun u h'=>h'=h∧u=.bool (decide (x=y))):=c_ExprSame' x Ra Rb
theorem rep_zero {h:Heap}:Rep h (.agg #[.int .i64 0,.int .i64 0,.slice none 0 0]) Exq.zero:=Rep_Exq.2 ⟨_,rfl,i64_0,i64_0,(Own_nils.rep.le fun _ _ h=>by simp[Heap.nil] at h)⟩
theorem c_EdgeValid {h:Heap}{v:Value}{e:Ed}(R:Rep h v e) {n:Int}(hn:I64 n):CallE Try.prog fn_impl_EdgeValid [v,.int .i64 n] h (fun u h'=>h.le h'∧u=.bool (decide (e.Ok n))):=by
 obtain⟨w1,w2,rfl,ok,R1,R2⟩:=Rep_Ed.1 R
 have G1:Rep h (.agg #[.int .i64 e.guard.kind,.int .i64 e.guard.val,w1]) e.guard:=Rep_Exq.2 ⟨w1,rfl,ok.gk,ok.gv,R1⟩
 have G2:Rep h (.agg #[.int .i64 e.value.kind,.int .i64 e.value.val,w2]) e.value:=Rep_Exq.2 ⟨w2,rfl,ok.vk,ok.vv,R2⟩
 refine CallE.gen fun k hk=>EN_impl_EdgeValid rfl ?_
 have hno:∀{h'},h.le h'→¬e.Ok n→k (.bool false) h':=fun hl hh=>hk _ _ ⟨hl,by rw[decide_eq_false hh]⟩
 have hyes:∀{h'},h.le h'→e.Ok n→k (.bool true) h':=fun hl hh=>hk _ _ ⟨hl,by rw[decide_eq_true hh]⟩
 simp -implicitDefEqProofs (disch:=omega)[wrap64]
 refine c_in.go ?_
 rintro _ _ ⟨rfl,rfl⟩
 by_cases q1:1≤n∧n≤4
 case neg=>simp -implicitDefEqProofs (disch:=first|omega|(simp only[LnZ];omega))[wrap64,q1];exact RetK.keep (hno (Heap.le.refl _) fun hh=>q1 ⟨hh.n1,hh.n4⟩)
 simp -implicitDefEqProofs (disch:=first|omega|(simp only[LnZ];omega))[wrap64,q1,Ed.cs]
 refine c_in.go ?_
 rintro _ _ ⟨rfl,rfl⟩
 by_cases q2:0≤e.frm∧e.frm≤n-1
 case neg=>simp -implicitDefEqProofs (disch:=first|omega|(simp only[LnZ];omega))[wrap64,q2];exact RetK.keep (hno (Heap.le.refl _) fun hh=>q2 ⟨hh.f0,by have:=hh.f1;omega⟩)
 simp -implicitDefEqProofs (disch:=first|omega|(simp only[LnZ];omega))[wrap64,q2,Ed.cs]
 refine c_in.go ?_
 rintro _ _ ⟨rfl,rfl⟩
 by_cases q3:0≤e.to∧e.to≤n-1
 case neg=>simp -implicitDefEqProofs (disch:=first|omega|(simp only[LnZ];omega))[wrap64,q3];exact RetK.keep (hno (Heap.le.refl _) fun hh=>q3 ⟨hh.t0,by have:=hh.t1;omega⟩)
 simp -implicitDefEqProofs (disch:=first|omega|(simp only[LnZ];omega))[wrap64,q3,Ed.cs]
 refine (c_ExprValid G1).go ?_
 rintro _ h1 ⟨l1,rfl⟩
 by_cases q4:e.guard.Ok
 case neg=>simp -implicitDefEqProofs (disch:=first|omega|(simp only[LnZ];omega))[wrap64,q4];exact RetK.keep (hno l1 fun hh=>q4 hh.gd)
 simp -implicitDefEqProofs (disch:=first|omega|(simp only[LnZ];omega))[wrap64,q4,Ed.cs]
 refine c_in.go ?_
 rintro _ _ ⟨rfl,rfl⟩
 by_cases q5:-1≤e.var∧e.var≤2
 case neg=>simp -implicitDefEqProofs (disch:=first|omega|(simp only[LnZ];omega))[wrap64,q5];exact RetK.keep (hno l1 fun hh=>q5 ⟨hh.v0,hh.v1⟩)
 by_cases q6:0≤e.var
 ·simp -implicitDefEqProofs (disch:=first|omega|(simp only[LnZ];omega))[wrap64,q5,q6,Ed.cs]
  refine (c_ExprValid (G2.le l1)).go ?_
  rintro _ h2 ⟨l2,rfl⟩
  by_cases q7:e.value.Ok
  case neg=>simp -implicitDefEqProofs (disch:=first|omega|(simp only[LnZ];omega))[wrap64,q7,q6,Ed.cs,show ¬e.var<0 by omega];exact RetK.keep (hno (l1.trans l2) fun hh=>hh.vl.elim (fun h3=>q7 h3.2) (fun h3=>absurd h3.1 (by omega)))
  simp -implicitDefEqProofs (disch:=first|omega|(simp only[LnZ];omega))[wrap64,q7,Ed.cs]
  refine c_in.go ?_
  rintro _ _ ⟨rfl,rfl⟩
  by_cases q8:-2≤e.sync∧e.sync≤2
  case neg=>simp -implicitDefEqProofs (disch:=first|omega|(simp only[LnZ];omega))[wrap64,q8];exact RetK.keep (hno (l1.trans l2) fun hh=>q8 ⟨hh.s0,hh.s1⟩)
  simp -implicitDefEqProofs (disch:=first|omega|(simp only[LnZ];omega))[wrap64,q8]
  exact RetK.keep (hyes (l1.trans l2) ⟨q1.1,q1.2,q2.1,by omega,q3.1,by omega,q4,q5.1,q5.2,.inl ⟨q6,q7⟩,q8.1,q8.2⟩)
 ·simp -implicitDefEqProofs (disch:=first|omega|(simp only[LnZ];omega))[wrap64,q5,q6,Ed.cs,show e.var<0 by omega]
  refine (c_ExprSame (G2.le l1) rep_zero).go ?_
  rintro _ _ ⟨rfl,rfl⟩
  by_cases q7:e.value=Exq.zero
  case neg=>simp -implicitDefEqProofs (disch:=first|omega|(simp only[LnZ];omega))[wrap64,q7];exact RetK.keep (hno l1 fun hh=>hh.vl.elim (fun h3=>q6 h3.1) (fun h3=>q7 h3.2))
  simp -implicitDefEqProofs (disch:=first|omega|(simp only[LnZ];omega))[wrap64,q7,Ed.cs]
  refine c_in.go ?_
  rintro _ _ ⟨rfl,rfl⟩
  by_cases q8:-2≤e.sync∧e.sync≤2
  case neg=>simp -implicitDefEqProofs (disch:=first|omega|(simp only[LnZ];omega))[wrap64,q8];exact RetK.keep (hno l1 fun hh=>q8 ⟨hh.s0,hh.s1⟩)
  simp -implicitDefEqProofs (disch:=first|omega|(simp only[LnZ];omega))[wrap64,q8]
  exact RetK.keep (hyes l1 ⟨q1.1,q1.2,q2.1,by omega,q3.1,by omega,q4,q5.1,q5.2,.inr ⟨by omega,q7⟩,q8.1,q8.2⟩)
theorem c_valsOk_1 {h:Heap}{n:Int}:CallE Try.prog fn_impl_valsOk_1 [.int .i64 n] h (fun u h'=>h'=h∧u=.bool (!decide (0≤n∧n≤3))):=by
 refine CallE.gen fun k hk=>EN_impl_valsOk_1 rfl ?_
 simp -implicitDefEqProofs (disch:=omega)[wrap64]
 refine c_in.go ?_
 rintro _ _ ⟨rfl,rfl⟩
 simp -implicitDefEqProofs (disch:=omega)[wrap64]
 exact RetK.keep (hk _ _ ⟨rfl,by simp⟩)
theorem c_valsOk {h:Heap}{w:Value}{W:List Int}(Rw:Rep h w W):CallE Try.prog fn_impl_valsOk [w] h (fun u h'=>h.le h'∧u=.bool (decide (VOk W))):=by
 have hL:=Rw.lt
 refine CallE.gen fun k hk=>EN_impl_valsOk rfl ?_
 by_cases h1:(W.length:Int)=3
 case neg=>
  simp -implicitDefEqProofs (disch:=first|omega|(simp only[LnZ];omega))[wrap64,Rw.len,h1]
  exact RetK.keep (hk _ _ ⟨Heap.le.refl _,by rw[decide_eq_false (fun hh:VOk W=>h1 (by rw[hh.len];rfl))]⟩)
 simp -implicitDefEqProofs (disch:=first|omega|(simp only[LnZ];omega))[wrap64,Rw.len,h1]
 refine (c_ContainsFunc_int Rw (c1:=[]) (c2:=[]) (f:=fn_impl_valsOk_1) rfl (fun n=>!decide (0≤n∧n≤3)) ?_).go ?_
 ·intro h3 hl j hj u Ru
  obtain⟨rfl,_⟩:=Rep_int.1 Ru
  exact (c_valsOk_1 (n:=W[j])).to fun _ _ ⟨h4,h5⟩=>⟨h4▸Heap.le.refl _,h5⟩
 ·rintro _ h3 ⟨hl,rfl⟩
  simp -implicitDefEqProofs (disch:=omega)[wrap64]
  refine RetK.keep (hk _ _ ⟨hl,?_⟩)
  congr 1
  rw[Bool.eq_iff_iff]
  have:W.length=3:=by omega
  simp[VOk,this]
theorem c_SystemValid_1 {h:Heap}{v:Value}{e:Ed}{b:Nat}{n:Int}(R:Rep h v e) (hn:I64 n) (hb:hload h (some (.pointer (some ⟨b,0,none⟩))) none=some (.int .i64 n)) :
  CallE Try.prog fn_impl_SystemValid_1 [v,.pointer (some ⟨b,0,none⟩)] h (fun u h'=>h.le h'∧u=.bool (!decide (e.Ok n))):=by
 have F:=R.aEd
 refine CallE.gen fun k hk=>EN_impl_SystemValid_1 rfl ?_
 simp -implicitDefEqProofs (disch:=first|omega|(simp only[LnZ];omega))[wrap64,F,hb]
 refine (c_EdgeValid R hn).go ?_
 rintro _ h1 ⟨l1,rfl⟩
 simp -implicitDefEqProofs (disch:=omega)[wrap64]
 exact RetK.keep (hk _ _ ⟨l1,rfl⟩)
theorem c_SystemValid {h:Heap}{v:Value}{s:Sy}(R:Rep h v s):CallE Try.prog fn_impl_SystemValid [v] h (fun u h'=>h.le h'∧u=.bool (decide s.Ok)):=by
 obtain⟨v1,v2,rfl,R1,R2⟩:=Rep_Sy.1 R
 have hL:=R2.lt
 refine CallE.gen fun k hk=>EN_impl_SystemValid rfl ?_
 have hno:∀{h'},h.le h'→¬s.Ok→k (.bool false) h':=fun hl hh=>hk _ _ ⟨hl,by rw[decide_eq_false hh]⟩
 simp -implicitDefEqProofs (disch:=omega)[wrap64]
 refine (c_valsOk R1).go ?_
 rintro _ h1 ⟨l1,rfl⟩
 by_cases q1:VOk s.init
 case neg=>simp -implicitDefEqProofs (disch:=first|omega|(simp only[LnZ];omega))[wrap64,q1];exact RetK.keep (hno l1 fun hh=>q1 hh.vs)
 simp -implicitDefEqProofs (disch:=first|omega|(simp only[LnZ];omega))[wrap64,q1,R2.len]
 refine c_in.go ?_
 rintro _ _ ⟨rfl,rfl⟩
 by_cases q2:(1:Int)≤s.procs.length∧(s.procs.length:Int)≤3
 case neg=>simp -implicitDefEqProofs (disch:=first|omega|(simp only[LnZ];omega))[wrap64,q2];exact RetK.keep (hno l1 fun hh=>q2 ⟨by have:=hh.p1;omega,by have:=hh.p3;omega⟩)
 simp -implicitDefEqProofs (disch:=first|omega|(simp only[LnZ];omega))[wrap64,q2,R2.len]
 refine wp_count s.procs.length (fun i e h'=>h.le h'∧e=[none,none,none,none,some v2,some (.int .i64 s.procs.length),some (.int .i64 i)]∧∀p∈s.procs.take i,p.Ok) ⟨l1,by simp,by simp⟩ ?_
 rintro J i _ h2 hJ hi ⟨l2,rfl,hall⟩
 simp -implicitDefEqProofs (disch:=omega)[wrap64]
 refine IteW.mk (fun hlt=>?_) (fun hge=>?_)
 ·have hlx:i<s.procs.length:=by omega
  obtain⟨u,hu,Ru⟩:=(R2.le l2).ld hlx
  change hload _ (some (elp 2 v2 i)) (some 2)=some u at hu
  obtain⟨w,rfl,k1,R3⟩:=Rep_Pr.1 Ru
  have hw1:=R3.cells
  have hw2:=R3.one
  have hel:=R3.lt
  simp -implicitDefEqProofs (disch:=first|omega|(simp only[LnZ];omega))[wrap64,R2.X (n:=2) rfl,hu]
  refine HS.init.alloc rfl fun b h3 H=>?_
  simp -implicitDefEqProofs (disch:=omega)[wrap64]
  refine HS.bxst (o:=0) (sz:=2) H rfl rfl rfl (by simp[hw2]) (by simp) fun h4 H=>?_
  have H:HS h2 [bx b [.int .i64 s.procs[i].locs,w]] h4:=H
  have l4:=l2.trans H.base
  have hb0:=H.bxld (o:=0) (u:=.int .i64 s.procs[i].locs) rfl
  have hb1:=H.bxld (o:=1) (u:=w) rfl
  simp -implicitDefEqProofs (disch:=first|omega|(simp only[LnZ];omega))[wrap64,hb0]
  refine c_in.go ?_
  rintro _ _ ⟨rfl,rfl⟩
  by_cases q3:1≤s.procs[i].locs∧s.procs[i].locs≤4
  case neg=>simp -implicitDefEqProofs (disch:=first|omega|(simp only[LnZ];omega))[wrap64,q3,hb1,(R3.on H).len];exact RetK.keep (hno l4 fun hh=>q3 ⟨(hh.at hlx).n1,(hh.at hlx).n4⟩)
  by_cases q4:(6:Int)<s.procs[i].edges.length
  ·simp -implicitDefEqProofs (disch:=first|omega|(simp only[LnZ];omega))[wrap64,q3,q4,hb1,(R3.on H).len];exact RetK.keep (hno l4 fun hh=>by have:=(hh.at hlx).el;omega)
  simp -implicitDefEqProofs (disch:=first|omega|(simp only[LnZ];omega))[wrap64,q3,q4,hb1,(R3.on H).len]
  refine (c_ContainsFunc_impl_Edge (R3.on H) (c1:=[]) (c2:=[.pointer (some ⟨b,0,none⟩)]) (f:=fn_impl_SystemValid_1) rfl (fun e=>!decide (e.Ok s.procs[i].locs)) ?_).go ?_
  ·intro h5 hl5 j hj u Ru
   exact c_SystemValid_1 Ru k1 (hload_le hl5 hb0)
  ·rintro _ h5 ⟨l5,rfl⟩
   have hex:s.procs[i].edges.any (fun e=>!decide (e.Ok s.procs[i].locs))=false↔s.procs[i].Ok:=by
    simp only[List.any_eq_false,Bool.not_eq_true,Bool.not_eq_false',decide_eq_true_iff]
    exact⟨fun hh=>⟨q3.1,q3.2,by omega,hh⟩,fun hh=>hh.ed⟩
   by_cases q5:s.procs[i].Ok
   ·simp -implicitDefEqProofs (disch:=first|omega|(simp only[LnZ];omega))[wrap64,hex.2 q5]
    refine hJ _ _ hlx ⟨l4.trans l5,by simp,fun p hp=>?_⟩
    rw[List.take_add_one,List.getElem?_eq_getElem hlx] at hp
    rcases List.mem_append.1 hp with hp | hp
    ·exact hall p hp
    ·simp at hp;subst hp;exact q5
   ·have hf:s.procs[i].edges.any (fun e=>!decide (e.Ok s.procs[i].locs))=true:=by
     cases hh:s.procs[i].edges.any (fun e=>!decide (e.Ok s.procs[i].locs)) with
     | true=>rfl
     | false=>exact absurd (hex.1 hh) q5
    simp -implicitDefEqProofs (disch:=first|omega|(simp only[LnZ];omega))[wrap64,hf]
    exact RetK.keep (hno (l4.trans l5) fun hh=>q5 (hh.at hlx))
 ·simp -implicitDefEqProofs (disch:=omega)[wrap64]
  rw[List.take_of_length_le (by omega)] at hall
  exact RetK.keep (hk _ _ ⟨l2,by rw[decide_eq_true (show s.Ok from ⟨q1,by omega,by omega,hall⟩)]⟩)
theorem c_l1Arity {h:Heap}{n:Int}:CallE Try.prog fn_spec_l1Arity [.int .i64 n] h (fun u h'=>h'=h∧u=.int .i64 (Exq.arity n)):=by
 refine CallE.gen fun k hk=>EN_spec_l1Arity rfl ?_
 by_cases c1:n=1
 ·simp -implicitDefEqProofs (disch:=first|omega|(simp only[LnZ];omega))[wrap64,c1]
  exact RetK.keep (hk _ _ ⟨rfl,by simp[Exq.arity,c1]⟩)
 by_cases c2:n=2
 ·simp -implicitDefEqProofs (disch:=first|omega|(simp only[LnZ];omega))[wrap64,c1,c2]
  exact RetK.keep (hk _ _ ⟨rfl,by simp[Exq.arity,c2]⟩)
 by_cases c3:n=3
 ·simp -implicitDefEqProofs (disch:=first|omega|(simp only[LnZ];omega))[wrap64,c1,c2,c3]
  exact RetK.keep (hk _ _ ⟨rfl,by simp[Exq.arity,c3]⟩)
 by_cases c4:4≤n
 case neg=>
  simp -implicitDefEqProofs (disch:=first|omega|(simp only[LnZ];omega))[wrap64,c1,c2,c3,c4]
  exact RetK.keep (hk _ _ ⟨rfl,by simp[Exq.arity,c1,c2,c3,c4]⟩)
 by_cases c5:n≤9
 case neg=>
  simp -implicitDefEqProofs (disch:=first|omega|(simp only[LnZ];omega))[wrap64,c1,c2,c3,c4,c5]
  exact RetK.keep (hk _ _ ⟨rfl,by simp[Exq.arity,c1,c2,c3,c4,c5]⟩)
 simp -implicitDefEqProofs (disch:=first|omega|(simp only[LnZ];omega))[wrap64,c1,c2,c3,c4,c5]
 exact RetK.keep (hk _ _ ⟨rfl,by simp[Exq.arity,c1,c2,c3,c4,c5]⟩)
noncomputable instance {n:Nat}{x:Exq}:Decidable (x.Shp n):=Classical.propDecidable _
theorem c_l1Shape:∀(n:Nat) {x:Exq}{h:Heap}{v:Value}{dv:Int},dv=n→n≤6→Rep h v x→CallE Try.prog fn_spec_l1Shape [v,.int .i64 dv] h (fun u h'=>h'=h∧u=.bool (decide (x.Shp n))):=by
 intro n
 induction n with
 | zero=>
  intro x h v dv hd _ R
  have hd:dv=0:=hd
  obtain⟨w,rfl,k1,k2,R1⟩:=Rep_Exq.1 R
  refine CallE.gen fun k hk=>EN_spec_l1Shape rfl ?_
  simp -implicitDefEqProofs (disch:=first|omega|(simp only[LnZ];omega))[wrap64,hd]
  exact RetK.keep (hk _ _ ⟨rfl,by rw[decide_eq_false (fun hh:x.Shp 0=>hh)]⟩)
 | succ n ih=>
  intro x h v dv hd hd6 R
  obtain⟨w,rfl,k1,k2,R1⟩:=Rep_Exq.1 R
  have hL:=R1.lt
  obtain⟨ln,hln⟩:∃ln:Int,ln=x.kids.length:=⟨_,rfl⟩
  have hlen:=R1.len
  rw[← hln] at hlen
  refine CallE.gen fun k hk=>EN_spec_l1Shape rfl ?_
  have hno:¬x.Shp (n+1)→k (.bool false) h:=fun hh=>hk _ _ ⟨rfl,by rw[decide_eq_false hh]⟩
  simp -implicitDefEqProofs (disch:=first|omega|(simp only[LnZ];omega))[wrap64,hlen,show ¬dv<1 by omega]
  refine c_l1Arity.go ?_
  rintro _ h ⟨rfl,rfl⟩
  by_cases q1:ln=Exq.arity x.kind
  case neg=>simp -implicitDefEqProofs (disch:=first|omega|(simp only[LnZ];omega))[wrap64,q1];exact RetK.keep (hno fun hh=>q1 (by rw[hln];exact hh.1.ar))
  have hm:(x.kind=1∧Exq.most x.kind=3)∨(x.kind=2∧Exq.most x.kind=2)∨((¬x.kind=1∧¬x.kind=2)∧Exq.most x.kind=0):=by
   unfold Exq.most
   by_cases c1:x.kind=1
   ·exact .inl ⟨c1,by simp[c1]⟩
   by_cases c2:x.kind=2
   ·exact .inr (.inl ⟨c2,by simp[c2]⟩)
   ·exact .inr (.inr ⟨⟨c1,c2⟩,by simp[c1,c2]⟩)
  rcases hm with ⟨c1,hmo⟩ | ⟨c1,hmo⟩ | ⟨c1,hmo⟩
  all_goals
   by_cases q2:x.val<0
   ·simp -implicitDefEqProofs (disch:=first|omega|(simp only[LnZ];omega))[wrap64,q1,c1,q2];exact RetK.keep (hno fun hh=>by have:=hh.1.lo;omega)
   by_cases q3:Exq.most x.kind<x.val
   ·rw[hmo] at q3
    simp -implicitDefEqProofs (disch:=first|omega|(simp only[LnZ];omega))[wrap64,q1,c1,q2,q3];exact RetK.keep (hno fun hh=>by have:=hh.1.hi;omega)
   rw[hmo] at q3
   simp -implicitDefEqProofs (disch:=first|omega|(simp only[LnZ];omega))[wrap64,q1,c1,q2,q3]
   refine wp_count x.kids.length (fun i e h'=>h'=h∧(∃kd:Int,kd=x.kind∧e=[none,some (.int .i64 dv),some (.agg #[.int .i64 kd,.int .i64 x.val,w]),none,none,some (.int .i64 i),none])∧∀y∈x.kids.take i,y.Shp n) ⟨rfl,⟨_,rfl,by simp[c1]⟩,by simp⟩ ?_
   rintro J i _ _ hJ hi ⟨rfl,⟨kd,hkd,rfl⟩,hall⟩
   simp -implicitDefEqProofs (disch:=first|omega|(simp only[LnZ];omega))[wrap64,R1.len]
   refine IteW.mk (fun hlt=>?_) (fun hge=>?_)
   ·have hlx:i<x.kids.length:=by omega
    obtain⟨u,hu,Ru⟩:=R1.ld hlx
    change hload _ (some (elp 3 w i)) (some 3)=some u at hu
    simp -implicitDefEqProofs (disch:=first|omega|(simp only[LnZ];omega))[wrap64,R1.X (n:=3) rfl,hu]
    refine (ih (dv:=dv-1) (by omega) (by omega) Ru).go ?_
    rintro _ _ ⟨rfl,rfl⟩
    by_cases q4:x.kids[i].Shp n
    case neg=>simp -implicitDefEqProofs (disch:=first|omega|(simp only[LnZ];omega))[wrap64,q4];exact RetK.keep (hno fun hh=>q4 (hh.kid hlx))
    simp -implicitDefEqProofs (disch:=first|omega|(simp only[LnZ];omega))[wrap64,q4]
    refine hJ _ _ hlx ⟨rfl,⟨kd,hkd,by simp⟩,fun y hy=>?_⟩
    rw[List.take_add_one,List.getElem?_eq_getElem hlx] at hy
    rcases List.mem_append.1 hy with hy | hy
    ·exact hall y hy
    ·simp at hy;subst hy;exact q4
   ·simp -implicitDefEqProofs (disch:=omega)[wrap64]
    rw[List.take_of_length_le (by omega)] at hall
    refine RetK.keep (hk _ _ ⟨rfl,?_⟩)
    rw[decide_eq_true (show x.Shp (n+1) from ⟨⟨by omega,by omega,by omega⟩,hall⟩)]
theorem c_l1Count:∀(n:Nat) {x:Exq}{h:Heap}{v:Value}{dv:Int},dv=n→n≤6→x.Shp n→Rep h v x→CallE Try.prog fn_spec_l1Count [v,.int .i64 dv] h (fun u h'=>h'=h∧u=.int .i64 x.nod):=by
 intro n
 induction n with
 | zero=>intro x h v dv hd _ hs;exact hs.elim
 | succ n ih=>
  intro x h v dv hd hd6 hs R
  obtain⟨w,rfl,k1,k2,R1⟩:=Rep_Exq.1 R
  have hL:=R1.lt
  have hbnd:=hs.bnd
  have hpow:2^(n+1)≤2^6:=Nat.pow_le_pow_right (by decide) hd6
  have hnod:=x.nod_eq
  refine CallE.gen fun k hk=>EN_spec_l1Count rfl ?_
  simp -implicitDefEqProofs (disch:=omega)[wrap64]
  refine wp_count x.kids.length (fun i e h'=>h'=h∧e=[none,some (.int .i64 dv),some (.agg #[.int .i64 x.kind,.int .i64 x.val,w]),none,some (.int .i64 ((1+Exq.nods (x.kids.take i):Nat):Int)),some (.int .i64 i)]) ⟨rfl,by simp[Exq.nods]⟩ ?_
  rintro J i _ _ hJ hi ⟨rfl,rfl⟩
  by_cases hlt:i<x.kids.length
  ·obtain⟨u,hu,Ru⟩:=R1.ld hlt
   change hload _ (some (elp 3 w i)) (some 3)=some u at hu
   have hn1:=Exq.nods_take hlt
   have hn2:=Exq.nods_le x.kids (i+1)
   simp -implicitDefEqProofs (disch:=first|omega|(simp only[LnZ];omega))[wrap64,hlt,R1.len,R1.X (n:=3) rfl,hu,show 0<dv by omega]
   refine (ih (dv:=dv-1) (by omega) (by omega) (hs.kid hlt) Ru).go ?_
   rintro _ _ ⟨rfl,rfl⟩
   simp -implicitDefEqProofs (disch:=omega)[wrap64]
   refine hJ _ _ hlt ⟨rfl,?_⟩
   simp[hn1];omega
  ·simp -implicitDefEqProofs (disch:=first|omega|(simp only[LnZ];omega))[wrap64,hlt,R1.len]
   rw[List.take_of_length_le (by omega)]
   refine RetK.keep (hk _ _ ⟨rfl,?_⟩)
   rw[hnod];push_cast;rfl
theorem c_spec_ExprValid {h:Heap}{v:Value}{x:Exq}(R:Rep h v x):CallE Try.prog fn_spec_ExprValid [v] h (fun u h'=>h'=h∧u=.bool (decide x.Ok)):=by
 have F:=R.aExq
 refine CallE.gen fun k hk=>EN_spec_ExprValid rfl ?_
 simp -implicitDefEqProofs (disch:=first|omega|(simp only[LnZ];omega))[wrap64,F]
 refine (c_l1Shape 6 (dv:=6) rfl (by omega) R).go ?_
 rintro _ _ ⟨rfl,rfl⟩
 by_cases q1:x.Shp 6
 case neg=>simp -implicitDefEqProofs (disch:=first|omega|(simp only[LnZ];omega))[wrap64,q1];exact RetK.keep (hk _ _ ⟨rfl,by rw[decide_eq_false (fun hh:x.Ok=>q1 hh.1)]⟩)
 simp -implicitDefEqProofs (disch:=first|omega|(simp only[LnZ];omega))[wrap64,q1,F]
 refine (c_l1Count 6 (dv:=6) rfl (by omega) q1 R).go ?_
 rintro _ _ ⟨rfl,rfl⟩
 simp -implicitDefEqProofs (disch:=omega)[wrap64]
 refine RetK.keep (hk _ _ ⟨rfl,?_⟩)
 congr 1
 rw[Bool.eq_iff_iff]
 simp[Exq.Ok,q1]
 omega
theorem c_l2None {h:Heap}{v:Value}{x:Exq}(R:Rep h v x):CallE Try.prog fn_spec_l2None [v] h (fun u h'=>h'=h∧u=.bool (decide (x=Exq.zero))):=by
 obtain⟨w,rfl,k1,k2,R1⟩:=Rep_Exq.1 R
 have hno:∀{P:Prop},(P→x=Exq.zero→False)→P→x≠Exq.zero:=fun hh hp he=>hh hp he
 refine CallE.gen fun k hk=>EN_spec_l2None rfl ?_
 by_cases q1:x.kind=0
 case neg=>simp -implicitDefEqProofs (disch:=first|omega|(simp only[LnZ];omega))[wrap64,q1];exact RetK.keep (hk _ _ ⟨rfl,by rw[decide_eq_false (fun hh:x=Exq.zero=>q1 (by rw[hh];rfl))]⟩)
 by_cases q2:x.val=0
 case neg=>simp -implicitDefEqProofs (disch:=first|omega|(simp only[LnZ];omega))[wrap64,q1,q2];exact RetK.keep (hk _ _ ⟨rfl,by rw[decide_eq_false (fun hh:x=Exq.zero=>q2 (by rw[hh];rfl))]⟩)
 simp -implicitDefEqProofs (disch:=first|omega|(simp only[LnZ];omega))[wrap64,q1,q2,R1.len]
 refine RetK.keep (hk _ _ ⟨rfl,?_⟩)
 congr 1
 rw[Bool.eq_iff_iff]
 simp[Exq.ext_iff',q1,q2,Exq.zero]
theorem c_spec_EdgeValid {h:Heap}{v:Value}{e:Ed}(R:Rep h v e) {n:Int}:CallE Try.prog fn_spec_EdgeValid [v,.int .i64 n] h (fun u h'=>h'=h∧u=.bool (decide (e.Ok n))):=by
 obtain⟨w1,w2,rfl,ok,R1,R2⟩:=Rep_Ed.1 R
 have G1:Rep h (.agg #[.int .i64 e.guard.kind,.int .i64 e.guard.val,w1]) e.guard:=Rep_Exq.2 ⟨w1,rfl,ok.gk,ok.gv,R1⟩
 have G2:Rep h (.agg #[.int .i64 e.value.kind,.int .i64 e.value.val,w2]) e.value:=Rep_Exq.2 ⟨w2,rfl,ok.vk,ok.vv,R2⟩
 refine CallE.gen fun k hk=>EN_spec_EdgeValid rfl ?_
 have hno:¬e.Ok n→k (.bool false) h:=fun hh=>hk _ _ ⟨rfl,by rw[decide_eq_false hh]⟩
 have hyes:e.Ok n→k (.bool true) h:=fun hh=>hk _ _ ⟨rfl,by rw[decide_eq_true hh]⟩
 by_cases a1:e.frm<0
 ·simp -implicitDefEqProofs (disch:=first|omega|(simp only[LnZ];omega))[wrap64,a1,Ed.cs];exact RetK.keep (hno fun hh=>by have:=hh.f0;omega)
 by_cases a2:n≤e.frm
 ·simp -implicitDefEqProofs (disch:=first|omega|(simp only[LnZ];omega))[wrap64,a1,a2,Ed.cs];exact RetK.keep (hno fun hh=>by have:=hh.f1;omega)
 by_cases a3:e.to<0
 ·simp -implicitDefEqProofs (disch:=first|omega|(simp only[LnZ];omega))[wrap64,a1,a2,a3,Ed.cs];exact RetK.keep (hno fun hh=>by have:=hh.t0;omega)
 by_cases a4:n≤e.to
 ·simp -implicitDefEqProofs (disch:=first|omega|(simp only[LnZ];omega))[wrap64,a1,a2,a3,a4,Ed.cs];exact RetK.keep (hno fun hh=>by have:=hh.t1;omega)
 by_cases a5:4<n
 ·simp -implicitDefEqProofs (disch:=first|omega|(simp only[LnZ];omega))[wrap64,a1,a2,a3,a4,a5,Ed.cs];exact RetK.keep (hno fun hh=>by have:=hh.n4;omega)
 simp -implicitDefEqProofs (disch:=first|omega|(simp only[LnZ];omega))[wrap64,a1,a2,a3,a4,a5,Ed.cs]
 refine (c_spec_ExprValid G1).go ?_
 rintro _ _ ⟨rfl,rfl⟩
 by_cases q4:e.guard.Ok
 case neg=>simp -implicitDefEqProofs (disch:=first|omega|(simp only[LnZ];omega))[wrap64,q4];exact RetK.keep (hno fun hh=>q4 hh.gd)
 by_cases b1:e.sync < -2
 ·simp -implicitDefEqProofs (disch:=first|omega|(simp only[LnZ];omega))[wrap64,q4,b1,Ed.cs];exact RetK.keep (hno fun hh=>by have:=hh.s0;omega)
 by_cases b2:2<e.sync
 ·simp -implicitDefEqProofs (disch:=first|omega|(simp only[LnZ];omega))[wrap64,q4,b1,b2,Ed.cs];exact RetK.keep (hno fun hh=>by have:=hh.s1;omega)
 by_cases b3:e.var < -1
 ·simp -implicitDefEqProofs (disch:=first|omega|(simp only[LnZ];omega))[wrap64,q4,b1,b2,b3,Ed.cs];exact RetK.keep (hno fun hh=>by have:=hh.v0;omega)
 by_cases b4:3≤e.var
 ·simp -implicitDefEqProofs (disch:=first|omega|(simp only[LnZ];omega))[wrap64,q4,b1,b2,b3,b4,Ed.cs];exact RetK.keep (hno fun hh=>by have:=hh.v1;omega)
 by_cases q6:e.var<0
 ·simp -implicitDefEqProofs (disch:=first|omega|(simp only[LnZ];omega))[wrap64,q4,b1,b2,b3,b4,q6,Ed.cs]
  refine (c_l2None G2).go ?_
  rintro _ _ ⟨rfl,rfl⟩
  by_cases q7:e.value=Exq.zero
  case neg=>simp -implicitDefEqProofs (disch:=first|omega|(simp only[LnZ];omega))[wrap64,q7,q6,Ed.cs,show ¬0≤e.var by omega];exact RetK.keep (hno fun hh=>hh.vl.elim (fun h3=>by omega) (fun h3=>q7 h3.2))
  simp -implicitDefEqProofs (disch:=first|omega|(simp only[LnZ];omega))[wrap64,q7]
  exact RetK.keep (hyes ⟨by omega,by omega,by omega,by omega,by omega,by omega,q4,by omega,by omega,.inr ⟨q6,q7⟩,by omega,by omega⟩)
 ·simp -implicitDefEqProofs (disch:=first|omega|(simp only[LnZ];omega))[wrap64,q4,b1,b2,b3,b4,q6,Ed.cs,show 0≤e.var by omega]
  refine (c_spec_ExprValid G2).go ?_
  rintro _ _ ⟨rfl,rfl⟩
  by_cases q7:e.value.Ok
  case neg=>simp -implicitDefEqProofs (disch:=first|omega|(simp only[LnZ];omega))[wrap64,q7];exact RetK.keep (hno fun hh=>hh.vl.elim (fun h3=>q7 h3.2) (fun h3=>by omega))
  simp -implicitDefEqProofs (disch:=first|omega|(simp only[LnZ];omega))[wrap64,q7]
  exact RetK.keep (hyes ⟨by omega,by omega,by omega,by omega,by omega,by omega,q4,by omega,by omega,.inl ⟨by omega,q7⟩,by omega,by omega⟩)
theorem c_l1Vals {h:Heap}{w:Value}{W:List Int}(Rw:Rep h w W):CallE Try.prog fn_spec_l1Vals [w] h (fun u h'=>h'=h∧u=.bool (decide (VOk W))):=by
 have hL:=Rw.lt
 refine CallE.gen fun k hk=>EN_spec_l1Vals rfl ?_
 simp -implicitDefEqProofs (disch:=omega)[wrap64]
 refine wp_count W.length (fun i e h'=>e=[some w,none,some (.int .i64 i)]∧h'=h∧∀(j:Nat) (hj:j<W.length),j<i→0≤W[j]∧W[j]≤3) ⟨rfl,rfl,fun j _ hj=>absurd hj (Nat.not_lt_zero j)⟩ ?_
 rintro J i _ h1 hJ hi ⟨rfl,rfl,hn⟩
 simp -implicitDefEqProofs (disch:=first|omega|(simp only[LnZ];omega))[wrap64,Rw.len]
 refine IteW.mk (fun hlt=>?_) (fun hge=>?_)
 ·have hlx:i<W.length:=by omega
  have hno:¬(0≤W[i]∧W[i]≤3)→k (.bool false) h1:=fun hx=>hk _ _ ⟨rfl,by rw[decide_eq_false (fun hh:VOk W=>hx (hh.at hlx))]⟩
  by_cases h1:W[i]<0
  ·simp -implicitDefEqProofs (disch:=first|omega|(simp only[LnZ];omega))[wrap64,Rw.I,h1]
   exact RetK.keep (hno (by omega))
  by_cases h2:3<W[i]
  ·simp -implicitDefEqProofs (disch:=first|omega|(simp only[LnZ];omega))[wrap64,Rw.I,h1,h2]
   exact RetK.keep (hno (by omega))
  simp -implicitDefEqProofs (disch:=first|omega|(simp only[LnZ];omega))[wrap64,Rw.I,h1,h2]
  refine hJ _ _ hlx ⟨rfl,rfl,fun j hj hji=>?_⟩
  by_cases hji2:j=i
  ·subst hji2;omega
  ·exact hn j hj (by omega)
 ·simp -implicitDefEqProofs (disch:=first|omega|(simp only[LnZ];omega))[wrap64,Rw.len]
  refine RetK.keep (hk _ _ ⟨rfl,?_⟩)
  congr 1
  rw[Bool.eq_iff_iff,decide_eq_true_iff,decide_eq_true_iff]
  refine⟨fun h3=>⟨by omega,fun x hx=>?_⟩,fun h3=>by have:=h3.len;omega⟩
  obtain⟨j,hj,rfl⟩:=List.mem_iff_getElem.1 hx
  exact hn j hj (by omega)
theorem c_l2Process {h:Heap}{v:Value}{p:Pr}(R:Rep h v p):CallE Try.prog fn_spec_l2Process [v] h (fun u h'=>h'=h∧u=.bool (decide p.Ok)):=by
 obtain⟨w,rfl,k1,R1⟩:=Rep_Pr.1 R
 have hL:=R1.lt
 refine CallE.gen fun k hk=>EN_spec_l2Process rfl ?_
 simp -implicitDefEqProofs (disch:=omega)[wrap64]
 refine wp_count p.edges.length (fun i e h'=>e=[none,some (.agg #[.int .i64 p.locs,w]),none,some (.int .i64 i)]∧h'=h∧∀x∈p.edges.take i,x.Ok p.locs) ⟨by simp,rfl,by simp⟩ ?_
 rintro J i _ h1 hJ hi ⟨rfl,rfl,hall⟩
 simp -implicitDefEqProofs (disch:=first|omega|(simp only[LnZ];omega))[wrap64,R1.len]
 refine IteW.mk (fun hlt=>?_) (fun hge=>?_)
 ·have hlx:i<p.edges.length:=by omega
  obtain⟨u,hu,Ru⟩:=R1.ld hlx
  change hload _ (some (elp 10 w i)) (some 10)=some u at hu
  simp -implicitDefEqProofs (disch:=first|omega|(simp only[LnZ];omega))[wrap64,R1.X (n:=10) rfl,hu]
  refine (c_spec_EdgeValid Ru).go ?_
  rintro _ _ ⟨rfl,rfl⟩
  by_cases q:p.edges[i].Ok p.locs
  case neg=>simp -implicitDefEqProofs (disch:=first|omega|(simp only[LnZ];omega))[wrap64,q];exact RetK.keep (hk _ _ ⟨rfl,by rw[decide_eq_false (fun hh:p.Ok=>q (hh.at hlx))]⟩)
  simp -implicitDefEqProofs (disch:=first|omega|(simp only[LnZ];omega))[wrap64,q]
  refine hJ _ _ hlx ⟨by simp,rfl,fun x hx=>?_⟩
  rw[List.take_add_one,List.getElem?_eq_getElem hlx] at hx
  rcases List.mem_append.1 hx with hx | hx
  ·exact hall x hx
  ·simp at hx;subst hx;exact q
 ·simp -implicitDefEqProofs (disch:=omega)[wrap64]
  rw[List.take_of_length_le (by omega)] at hall
  have hno:¬p.Ok→k (.bool false) h1:=fun hx=>hk _ _ ⟨rfl,by rw[decide_eq_false hx]⟩
  by_cases a1:1≤p.locs
  case neg=>simp -implicitDefEqProofs (disch:=first|omega|(simp only[LnZ];omega))[wrap64,a1];exact RetK.keep (hno fun hh=>a1 hh.n1)
  by_cases a2:p.locs≤4
  case neg=>simp -implicitDefEqProofs (disch:=first|omega|(simp only[LnZ];omega))[wrap64,a1,a2];exact RetK.keep (hno fun hh=>a2 hh.n4)
  simp -implicitDefEqProofs (disch:=first|omega|(simp only[LnZ];omega))[wrap64,a1,a2,R1.len]
  refine RetK.keep (hk _ _ ⟨rfl,?_⟩)
  congr 1
  rw[Bool.eq_iff_iff,decide_eq_true_iff,decide_eq_true_iff]
  exact⟨fun h3=>⟨a1,a2,by omega,hall⟩,fun h3=>by have:=h3.el;omega⟩
theorem c_spec_SystemValid {h:Heap}{v:Value}{s:Sy}(R:Rep h v s):CallE Try.prog fn_spec_SystemValid [v] h (fun u h'=>h'=h∧u=.bool (decide s.Ok)):=by
 obtain⟨v1,v2,rfl,R0,R1⟩:=Rep_Sy.1 R
 have hL:=R1.lt
 refine CallE.gen fun k hk=>EN_spec_SystemValid rfl ?_
 simp -implicitDefEqProofs (disch:=omega)[wrap64]
 refine wp_count s.procs.length (fun i e h'=>e=[none,some (.agg #[v1,v2]),none,some (.int .i64 i)]∧h'=h∧∀x∈s.procs.take i,x.Ok) ⟨by simp,rfl,by simp⟩ ?_
 rintro J i _ h1 hJ hi ⟨rfl,rfl,hall⟩
 simp -implicitDefEqProofs (disch:=first|omega|(simp only[LnZ];omega))[wrap64,R1.len]
 refine IteW.mk (fun hlt=>?_) (fun hge=>?_)
 ·have hlx:i<s.procs.length:=by omega
  obtain⟨u,hu,Ru⟩:=R1.ld hlx
  change hload _ (some (elp 2 v2 i)) (some 2)=some u at hu
  simp -implicitDefEqProofs (disch:=first|omega|(simp only[LnZ];omega))[wrap64,R1.X (n:=2) rfl,hu]
  refine (c_l2Process Ru).go ?_
  rintro _ _ ⟨rfl,rfl⟩
  by_cases q:s.procs[i].Ok
  case neg=>simp -implicitDefEqProofs (disch:=first|omega|(simp only[LnZ];omega))[wrap64,q];exact RetK.keep (hk _ _ ⟨rfl,by rw[decide_eq_false (fun hh:s.Ok=>q (hh.at hlx))]⟩)
  simp -implicitDefEqProofs (disch:=first|omega|(simp only[LnZ];omega))[wrap64,q]
  refine hJ _ _ hlx ⟨by simp,rfl,fun x hx=>?_⟩
  rw[List.take_add_one,List.getElem?_eq_getElem hlx] at hx
  rcases List.mem_append.1 hx with hx | hx
  ·exact hall x hx
  ·simp at hx;subst hx;exact q
 ·simp -implicitDefEqProofs (disch:=omega)[wrap64]
  rw[List.take_of_length_le (by omega)] at hall
  have hno:¬s.Ok→k (.bool false) h1:=fun hx=>hk _ _ ⟨rfl,by rw[decide_eq_false hx]⟩
  refine (c_l1Vals R0).go ?_
  rintro _ _ ⟨rfl,rfl⟩
  by_cases a0:VOk s.init
  case neg=>simp -implicitDefEqProofs (disch:=first|omega|(simp only[LnZ];omega))[wrap64,a0];exact RetK.keep (hno fun hh=>a0 hh.vs)
  by_cases a1:(1:Int)≤s.procs.length
  case neg=>simp -implicitDefEqProofs (disch:=first|omega|(simp only[LnZ];omega))[wrap64,a0,a1,R1.len];exact RetK.keep (hno fun hh=>a1 (by have:=hh.p1;omega))
  simp -implicitDefEqProofs (disch:=first|omega|(simp only[LnZ];omega))[wrap64,a0,a1,R1.len]
  refine RetK.keep (hk _ _ ⟨rfl,?_⟩)
  congr 1
  rw[Bool.eq_iff_iff,decide_eq_true_iff,decide_eq_true_iff]
  exact⟨fun h3=>⟨a0,by omega,by omega,hall⟩,fun h3=>by have:=h3.p3;omega⟩
theorem c_heldIntS {h:Heap}{v:Value}{x:List Int}{k0:Int}(Rv:Rep h v x) (hk0:0≤k0) (hk1:k0+Mk.cnt x<4611686018427387904):CallE Try.prog fn_laws_heldIntS [v,.int .i64 k0] h (fun u h'=>h'=h∧u=.int .i64 (if Mk.wr k0 x=x then k0+Mk.cnt x else -1)):=by
 refine CallE.gen fun k hk=>EN_laws_heldIntS rfl ?_
 have hL:=Rv.lt
 have hcx:Mk.cnt x=cntL x:=rfl
 simp -implicitDefEqProofs (disch:=omega)[wrap64]
 refine wp_count x.length (fun i e h'=>h'=h∧e=[some v,some (.int .i64 (k0+cntL (x.take i))),none,some (.int .i64 i)]∧(mkL k0 x).take i=x.take i) ⟨rfl,by simp[cntL],rfl⟩ ?_
 rintro J i _ _ hJ hi ⟨rfl,rfl,M⟩
 simp -implicitDefEqProofs (disch:=first|omega|(simp only[LnZ];omega))[wrap64,Rv.len]
 refine IteW.mk (fun hlt=>?_) (fun hge=>?_)
 ·have hlx:i<x.length:=by omega
  have hb:=cntL_le x (i+1)
  have hc:=cntL_take x i hlx
  have hg:=mkL_get k0 x i hlx
  have h1:Mk.cnt x[i]=1:=rfl
  obtain⟨q,hq⟩:∃q,q=k0+cntL (x.take i):=⟨_,rfl⟩
  rw[← hq] at hg ⊢
  simp -implicitDefEqProofs (disch:=first|omega|(simp only[LnZ];omega))[wrap64,Rv.I]
  refine IteW.mk (fun hq2=>?_) (fun hq2=>?_)
  ·simp -implicitDefEqProofs (disch:=omega)[wrap64]
   refine hJ _ _ hlx ⟨rfl,by rw[hc,h1,hq];push_cast;simp[Int.add_assoc],take_step M (by simpa using hlx) hlx ?_⟩
   rw[hg]
   exact hq2.symm
  ·simp -implicitDefEqProofs (disch:=omega)[wrap64]
   refine RetK.keep (hk _ _ ⟨rfl,?_⟩)
   rw[if_neg]
   intro he
   have he2:mkL k0 x=x:=he
   simp only[he2] at hg
   exact hq2 hg
 ·simp -implicitDefEqProofs (disch:=omega)[wrap64]
  have h2:x.take i=x:=List.take_of_length_le (by omega)
  rw[List.take_of_length_le (by simp;omega),h2] at M
  exact RetK.keep (hk _ _ ⟨rfl,by rw[h2];exact congrArg _ (if_pos M).symm⟩)
def Sta.zero:Sta:=⟨[],[]⟩
theorem c_eqState {h:Heap}{a b:Value}{x y:Sta}(Ra:Rep h a x) (Rb:Rep h b y):CallE Try.prog fn_laws_eqState [a,b] h (fun v h'=>h'=h∧v=.bool (decide (x=y))):=by
 obtain⟨v1,v2,rfl,R1,R2⟩:=Rep_Sta.1 Ra
 obtain⟨w1,w2,rfl,S1,S2⟩:=Rep_Sta.1 Rb
 refine CallE.gen fun k hk=>EN_laws_eqState rfl ?_
 simp -implicitDefEqProofs (disch:=omega)[wrap64]
 refine (c_eqIntS R1 S1).go ?_
 rintro _ _ ⟨rfl,rfl⟩
 simp -implicitDefEqProofs (disch:=omega)[wrap64]
 refine IteW.mkr (fun h1=>?_) (fun h1=>?_)
 ·simp -implicitDefEqProofs (disch:=omega)[wrap64]
  exact RetK.keep (hk _ _ ⟨rfl,by simp_all [Sta.ext_iff']⟩)
 simp -implicitDefEqProofs (disch:=omega)[wrap64]
 refine (c_eqIntS R2 S2).go ?_
 rintro _ _ ⟨rfl,rfl⟩
 simp -implicitDefEqProofs (disch:=omega)[wrap64]
 refine IteW.mkr (fun h2=>?_) (fun h2=>?_)
 ·simp -implicitDefEqProofs (disch:=omega)[wrap64]
  exact RetK.keep (hk _ _ ⟨rfl,by simp_all [Sta.ext_iff']⟩)
 try simp -implicitDefEqProofs (disch:=omega)[wrap64]
 exact RetK.keep (hk _ _ ⟨rfl,by simp_all [Sta.ext_iff']⟩)
theorem cnt_Sta (s:Sta):Mk.cnt s=Mk.cnt s.locs+Mk.cnt s.vals:=rfl
theorem Rep.gd {h:Heap}{e:Ed}{w1 w2:Value}(ok:e.ok) (R1:Rep h w1 e.guard.kids):Rep h (.agg #[.int .i64 e.guard.kind,.int .i64 e.guard.val,w1]) e.guard:=Rep_Exq.2 ⟨w1,rfl,ok.gk,ok.gv,R1⟩
theorem Rep.vl {h:Heap}{e:Ed}{w2:Value}(ok:e.ok) (R1:Rep h w2 e.value.kids):Rep h (.agg #[.int .i64 e.value.kind,.int .i64 e.value.val,w2]) e.value:=Rep_Exq.2 ⟨w2,rfl,ok.vk,ok.vv,R1⟩
theorem c_markExprS':∀(x0:Exq) {g h:Heap}{Γ:List HP}{v:Value}{k0:Int},HS g (ow v x0.kids::Γ) h→0≤k0→k0+Mk.cnt x0.kids<4611686018427387904 →
  CallE Try.prog fn_laws_markExprS [v,.int .i64 k0] h (fun u h'=>HS g (ow v (Mk.wr k0 x0.kids)::Γ) h'∧u=.int .i64 (k0+Mk.cnt x0.kids)):=by
 refine Exq.ind fun x0 ih g h Γ v k0 H hk0 hk1=>?_
 generalize hx0:x0.kids=x at *
 refine CallE.gen fun k hk=>EN_laws_markExprS rfl ?_
 simp -implicitDefEqProofs (disch:=omega)[wrap64]
 refine wp_count x.length (fun i e h'=>e=[some v,some (.int .i64 (k0+cntL (x.take i))),none,some (.int .i64 i)]∧∃y,HS g (ow v y::Γ) h'∧Mkd k0 x y i) ⟨by simp[cntL],x,H,Mkd.zero⟩ ?_
 rintro J i _ h2 hJ hi ⟨rfl,y,H,M⟩
 have hl:=M.len
 have hL:=H.rep.lt
 have hcx:Mk.cnt x=cntL x:=rfl
 simp -implicitDefEqProofs (disch:=first|omega|(simp only[LnZ];omega))[wrap64,H.rep.len]
 refine IteW.mk (fun hlt=>?_) (fun hge=>?_)
 ·have hlx:i<x.length:=by omega
  have hly:i<y.length:=by omega
  have hb:=cntL_le x (i+1)
  have hc:=cntL_take x i hlx
  have hce:=cnt_Exq x[i]
  have hwe:=wr_Exq (k0+cntL (x.take i)) x[i]
  have M':=M.step hlx
  obtain⟨q,hq⟩:∃q,q=k0+cntL (x.take i):=⟨_,rfl⟩
  obtain⟨u,hu,H⟩:=HS.take H hly
  rw[M.get hlx] at H
  obtain⟨w,rfl,k1,k2,H⟩:=H.unExq
  have hia:=HS.holeia H.sw1 (n:=3) (kd:=.i64) rfl hly
  have hP:=hld_parts (HS.holeP H.sw1 (n:=3) rfl rfl)
  rw[← hq] at hwe M' ⊢
  simp -implicitDefEqProofs (disch:=first|omega|(simp only[LnZ];omega))[wrap64,hia,hP.1]
  refine HS.holest H.sw1 rfl (n:=3) rfl rfl rfl rfl rfl (by decide) fun h3 H=>?_
  replace H:HS g (hole v y i (.agg #[.int .i64 q,.int .i64 x[i].val,w])::ow w x[i].kids::Γ) h3:=H
  have hP:=hld_parts (HS.holeP H (n:=3) rfl rfl)
  simp -implicitDefEqProofs (disch:=first|omega|(simp only[LnZ];omega))[wrap64,hia,hP.1]
  refine HS.holest H rfl (n:=3) rfl rfl rfl rfl rfl (by decide) fun h4 H=>?_
  replace H:HS g (hole v y i (.agg #[.int .i64 q,.int .i64 (q+1),w])::ow w x[i].kids::Γ) h4:=H
  have hP:=hld_parts (HS.holeP H (n:=3) rfl rfl)
  simp -implicitDefEqProofs (disch:=first|omega|(simp only[LnZ];omega))[wrap64,hia,hP.1,hP.2.2.1]
  refine (ih x[i] (List.getElem_mem hlx) (k0:=q+1+1) H.sw1 (by omega) (by omega)).go ?_
  rintro _ h5 ⟨H,rfl⟩
  have H:=HS.put (H.mkExq' (kd:=q) (vl:=q+1) ⟨by omega,by omega⟩ ⟨by omega,by omega⟩)
  simp -implicitDefEqProofs (disch:=omega)[wrap64]
  refine hJ _ _ hlx ⟨?_,_,H,?_⟩
  ·simp only[List.cons.injEq,Option.some.injEq,Value.int.injEq,true_and,and_true]
   refine⟨?_,by simp⟩
   rw[hc];push_cast;omega
  ·rw[hwe,show q+2=q+1+1 by omega] at M'
   exact M'
 ·simp -implicitDefEqProofs (disch:=omega)[wrap64]
  have h2:x.take i=x:=List.take_of_length_le (by omega)
  refine RetK.keep (hk _ _ ⟨?_,by rw[h2];rfl⟩)
  have h3:y=Mk.wr k0 x:=M.all (by omega)
  rw[← h3];exact H
theorem c_markExprS {g h:Heap}{Γ:List HP}{v:Value}{x:List Exq}{k0:Int}(H:HS g (ow v x::Γ) h) (hk0:0≤k0) (hk1:k0+Mk.cnt x<4611686018427387904) :
  CallE Try.prog fn_laws_markExprS [v,.int .i64 k0] h (fun u h'=>HS g (ow v (Mk.wr k0 x)::Γ) h'∧u=.int .i64 (k0+Mk.cnt x)):=c_markExprS' (Exq.mk 0 0 x) H hk0 hk1
theorem c_markEdgeS {g h:Heap}{Γ:List HP}{v:Value}{x:List Ed}{k0:Int}(H:HS g (ow v x::Γ) h) (hk0:0≤k0) (hk1:k0+Mk.cnt x<4611686018427387904) :
  CallE Try.prog fn_laws_markEdgeS [v,.int .i64 k0] h (fun u h'=>HS g (ow v (Mk.wr k0 x)::Γ) h'∧u=.int .i64 (k0+Mk.cnt x)):=by
 refine CallE.gen fun k hk=>EN_laws_markEdgeS rfl ?_
 simp -implicitDefEqProofs (disch:=omega)[wrap64]
 refine wp_count x.length (fun i e h'=>e=[some v,some (.int .i64 (k0+cntL (x.take i))),none,some (.int .i64 i)]∧∃y,HS g (ow v y::Γ) h'∧Mkd k0 x y i) ⟨by simp[cntL],x,H,Mkd.zero⟩ ?_
 rintro J i _ h2 hJ hi ⟨rfl,y,H,M⟩
 have hl:=M.len
 have hL:=H.rep.lt
 have hcx:Mk.cnt x=cntL x:=rfl
 simp -implicitDefEqProofs (disch:=first|omega|(simp only[LnZ];omega))[wrap64,H.rep.len]
 refine IteW.mk (fun hlt=>?_) (fun hge=>?_)
 ·have hlx:i<x.length:=by omega
  have hly:i<y.length:=by omega
  have hb:=cntL_le x (i+1)
  have hc:=cntL_take x i hlx
  have hce:=cnt_Ed x[i]
  have M':=M.step hlx
  obtain⟨q,hq⟩:∃q,q=k0+cntL (x.take i):=⟨_,rfl⟩
  obtain⟨u,hu,H⟩:=HS.take H hly
  rw[M.get hlx] at H
  obtain⟨n1,hn1⟩:∃n1,n1=Mk.cnt x[i].guard.kids:=⟨_,rfl⟩
  obtain⟨n2,hn2⟩:∃n2,n2=Mk.cnt x[i].value.kids:=⟨_,rfl⟩
  have hwe:Mk.wr q x[i]=⟨q,q+1,.mk (q+1+1) (q+1+1+1) (Mk.wr (q+1+1+1+1) x[i].guard.kids),q+1+1+1+1+n1,
    .mk (q+1+1+1+1+n1+1) (q+1+1+1+1+n1+1+1) (Mk.wr (q+1+1+1+1+n1+1+1+1) x[i].value.kids),q+1+1+1+1+n1+1+1+1+n2⟩:=by
   show (⟨_,_,Mk.wr _ x[i].guard,_,Mk.wr _ x[i].value,_⟩:Ed)=_
   rw[wr_Exq,wr_Exq,Ed.ext_iff']
   have e1:=cnt_Exq x[i].guard
   have e2:=cnt_Exq x[i].value
   have e3:Mk.cnt x[i].frm=1:=rfl
   have e4:Mk.cnt x[i].to=1:=rfl
   have e5:Mk.cnt x[i].var=1:=rfl
   have e6:∀(a b:Int) (l:List Exq),a=b→Mk.wr a l=Mk.wr b l:=fun a b l h=>by rw[h]
   simp only[Exq.ext_iff',Exq.kind_mk,Exq.val_mk,Exq.kids_mk]
   refine⟨rfl,?_,⟨?_,?_,e6 _ _ _ ?_⟩,?_,⟨?_,?_,e6 _ _ _ ?_⟩,?_⟩<;>(try show _+_=_)<;>(try show Mk.wr _ (_:Int)=_)<;>(try simp only[Mk.wr])<;>push_cast [e1,e2,e3,e4,e5]<;>omega
  rw[← hn1,← hn2] at hce
  obtain⟨w1,w2,rfl,ok,H⟩:=H.unEd
  replace H:=H.sw2
  have hia:=HS.holeia H (n:=10) (kd:=.i64) rfl hly
  have hP:=hld_parts (HS.holeP H (n:=10) rfl rfl)
  rw[← hq] at M' ⊢
  simp -implicitDefEqProofs (disch:=first|omega|(simp only[LnZ];omega))[wrap64,hia,hP.1,hP.2.1]
  refine HS.holest H rfl (n:=10) rfl rfl rfl rfl rfl (by decide) fun h3 H=>?_
  have hP:=hld_parts (HS.holeP H (n:=10) rfl rfl)
  simp -implicitDefEqProofs (disch:=first|omega|(simp only[LnZ];omega))[wrap64,hia,hP.1,hP.2.1]
  refine HS.holest H rfl (n:=10) rfl rfl rfl rfl rfl (by decide) fun h4 H=>?_
  have hP:=hld_parts (HS.holeP H (n:=10) rfl rfl)
  simp -implicitDefEqProofs (disch:=first|omega|(simp only[LnZ];omega))[wrap64,hia,hP.1,hP.2.1]
  refine HS.holest H rfl (n:=10) rfl rfl rfl rfl rfl (by decide) fun h5 H=>?_
  have hP:=hld_parts (HS.holeP H (n:=10) rfl rfl)
  simp -implicitDefEqProofs (disch:=first|omega|(simp only[LnZ];omega))[wrap64,hia,hP.1,hP.2.1]
  refine HS.holest H rfl (n:=10) rfl rfl rfl rfl rfl (by decide) fun h6 H=>?_
  replace H:HS g (hole v y i (.agg #[.int .i64 q,.int .i64 (q+1),.int .i64 (q+1+1),.int .i64 (q+1+1+1),w1,.int .i64 x[i].var,.int .i64 x[i].value.kind,.int .i64 x[i].value.val,w2,.int .i64 x[i].sync])::ow w1 x[i].guard.kids::ow w2 x[i].value.kids::Γ) h6:=H
  have hP:=hld_parts (HS.holeP H (n:=10) rfl rfl)
  simp -implicitDefEqProofs (disch:=first|omega|(simp only[LnZ];omega))[wrap64,hia,hP.1,hP.2.1,hP.2.2.1]
  refine (c_markExprS (k0:=q+1+1+1+1) H.sw1 (by omega) (by omega)).go ?_
  rintro _ h7 ⟨H,rfl⟩
  rw[← hn1]
  replace H:=H.sw1
  have hP:=hld_parts (HS.holeP H (n:=10) rfl rfl)
  simp -implicitDefEqProofs (disch:=first|omega|(simp only[LnZ];omega))[wrap64,hia,hP.1,hP.2.1]
  refine HS.holest H rfl (n:=10) rfl rfl rfl rfl rfl (by decide) fun h8 H=>?_
  have hP:=hld_parts (HS.holeP H (n:=10) rfl rfl)
  simp -implicitDefEqProofs (disch:=first|omega|(simp only[LnZ];omega))[wrap64,hia,hP.1,hP.2.1]
  refine HS.holest H rfl (n:=10) rfl rfl rfl rfl rfl (by decide) fun h9 H=>?_
  have hP:=hld_parts (HS.holeP H (n:=10) rfl rfl)
  simp -implicitDefEqProofs (disch:=first|omega|(simp only[LnZ];omega))[wrap64,hia,hP.1,hP.2.1]
  refine HS.holest H rfl (n:=10) rfl rfl rfl rfl rfl (by decide) fun h10 H=>?_
  replace H:HS g (hole v y i (.agg #[.int .i64 q,.int .i64 (q+1),.int .i64 (q+1+1),.int .i64 (q+1+1+1),w1,.int .i64 (q+1+1+1+1+n1),.int .i64 (q+1+1+1+1+n1+1),.int .i64 (q+1+1+1+1+n1+1+1),w2,.int .i64 x[i].sync])::ow w1 (Mk.wr (q+1+1+1+1) x[i].guard.kids)::ow w2 x[i].value.kids::Γ) h10:=H
  have hP:=hld_parts (HS.holeP H (n:=10) rfl rfl)
  simp -implicitDefEqProofs (disch:=first|omega|(simp only[LnZ];omega))[wrap64,hia,hP.1,hP.2.1,hP.2.2.1]
  refine (c_markExprS (k0:=q+1+1+1+1+n1+1+1+1) H.sw2 (by omega) (by omega)).go ?_
  rintro _ h11 ⟨H,rfl⟩
  rw[← hn2]
  replace H:=H.sw1
  have hP:=hld_parts (HS.holeP H (n:=10) rfl rfl)
  simp -implicitDefEqProofs (disch:=first|omega|(simp only[LnZ];omega))[wrap64,hia,hP.1,hP.2.1]
  refine HS.holest H rfl (n:=10) rfl rfl rfl rfl rfl (by decide) fun h12 H=>?_
  have ok':Ed.ok ⟨q,q+1,.mk (q+1+1) (q+1+1+1) (Mk.wr (q+1+1+1+1) x[i].guard.kids),q+1+1+1+1+n1,
    .mk (q+1+1+1+1+n1+1) (q+1+1+1+1+n1+1+1) (Mk.wr (q+1+1+1+1+n1+1+1+1) x[i].value.kids),q+1+1+1+1+n1+1+1+1+n2⟩:=by
   refine⟨?_,?_,?_,?_,?_,?_,?_,?_⟩<;>(simp only[I64,Exq.kind_mk,Exq.val_mk])<;>constructor<;>omega
  have H:=HS.put (HS.mkEd (e:=⟨q,q+1,.mk (q+1+1) (q+1+1+1) (Mk.wr (q+1+1+1+1) x[i].guard.kids),q+1+1+1+1+n1,
    .mk (q+1+1+1+1+n1+1) (q+1+1+1+1+n1+1+1) (Mk.wr (q+1+1+1+1+n1+1+1+1) x[i].value.kids),q+1+1+1+1+n1+1+1+1+n2⟩) H.sw2.sw2.sw1 ok')
  simp -implicitDefEqProofs (disch:=omega)[wrap64]
  refine hJ _ _ hlx ⟨?_,_,H,?_⟩
  ·simp only[List.cons.injEq,Option.some.injEq,Value.int.injEq,true_and,and_true]
   refine⟨?_,by simp⟩
   rw[hc];push_cast;omega
  ·rw[← hwe];exact M'
 ·simp -implicitDefEqProofs (disch:=omega)[wrap64]
  have h2:x.take i=x:=List.take_of_length_le (by omega)
  refine RetK.keep (hk _ _ ⟨?_,by rw[h2];rfl⟩)
  have h3:y=Mk.wr k0 x:=M.all (by omega)
  rw[← h3];exact H
theorem c_markProcessS {g h:Heap}{Γ:List HP}{v:Value}{x:List Pr}{k0:Int}(H:HS g (ow v x::Γ) h) (hk0:0≤k0) (hk1:k0+Mk.cnt x<4611686018427387904) :
  CallE Try.prog fn_laws_markProcessS [v,.int .i64 k0] h (fun u h'=>HS g (ow v (Mk.wr k0 x)::Γ) h'∧u=.int .i64 (k0+Mk.cnt x)):=by
 refine CallE.gen fun k hk=>EN_laws_markProcessS rfl ?_
 simp -implicitDefEqProofs (disch:=omega)[wrap64]
 refine wp_count x.length (fun i e h'=>e=[some v,some (.int .i64 (k0+cntL (x.take i))),none,some (.int .i64 i)]∧∃y,HS g (ow v y::Γ) h'∧Mkd k0 x y i) ⟨by simp[cntL],x,H,Mkd.zero⟩ ?_
 rintro J i _ h2 hJ hi ⟨rfl,y,H,M⟩
 have hl:=M.len
 have hL:=H.rep.lt
 have hcx:Mk.cnt x=cntL x:=rfl
 simp -implicitDefEqProofs (disch:=first|omega|(simp only[LnZ];omega))[wrap64,H.rep.len]
 refine IteW.mk (fun hlt=>?_) (fun hge=>?_)
 ·have hlx:i<x.length:=by omega
  have hly:i<y.length:=by omega
  have hb:=cntL_le x (i+1)
  have hc:=cntL_take x i hlx
  have hce:=cnt_Pr x[i]
  have M':=M.step hlx
  obtain⟨q,hq⟩:∃q,q=k0+cntL (x.take i):=⟨_,rfl⟩
  obtain⟨u,hu,H⟩:=HS.take H hly
  rw[M.get hlx] at H
  obtain⟨w,rfl,k1,H⟩:=H.unPr
  replace H:=H.sw1
  have hia:=HS.holeia H (n:=2) (kd:=.i64) rfl hly
  have hP:=hld_parts (HS.holeP H (n:=2) rfl rfl)
  rw[← hq] at M' ⊢
  simp -implicitDefEqProofs (disch:=first|omega|(simp only[LnZ];omega))[wrap64,hia,hP.1]
  refine HS.holest H rfl (n:=2) rfl rfl rfl rfl rfl (by decide) fun h3 H=>?_
  replace H:HS g (hole v y i (.agg #[.int .i64 q,w])::ow w x[i].edges::Γ) h3:=H
  have hP:=hld_parts (HS.holeP H (n:=2) rfl rfl)
  simp -implicitDefEqProofs (disch:=first|omega|(simp only[LnZ];omega))[wrap64,hia,hP.1,hP.2.2.1]
  refine (c_markEdgeS (k0:=q+1) H.sw1 (by omega) (by omega)).go ?_
  rintro _ h5 ⟨H,rfl⟩
  have H:=HS.put (HS.mkPr (p:=⟨q,Mk.wr (q+1) x[i].edges⟩) H ⟨by dsimp only;omega,by dsimp only;omega⟩)
  simp -implicitDefEqProofs (disch:=omega)[wrap64]
  refine hJ _ _ hlx ⟨?_,_,H,?_⟩
  ·simp only[List.cons.injEq,Option.some.injEq,Value.int.injEq,true_and,and_true]
   refine⟨?_,by simp⟩
   rw[hc];push_cast;omega
  ·exact M'
 ·simp -implicitDefEqProofs (disch:=omega)[wrap64]
  have h2:x.take i=x:=List.take_of_length_le (by omega)
  refine RetK.keep (hk _ _ ⟨?_,by rw[h2];rfl⟩)
  have h3:y=Mk.wr k0 x:=M.all (by omega)
  rw[← h3];exact H
theorem c_markSystem {g h:Heap}{Γ:List HP}{v:Value}{x:Sy}{k0:Int}(H:HS g (ow v x::Γ) h) (hk0:0≤k0) (hk1:k0+Mk.cnt x<4611686018427387904) :
  CallE Try.prog fn_laws_markSystem [v,.int .i64 k0] h (fun u h'=>HS g (ow v (Mk.wr k0 x)::Γ) h'∧u=.int .i64 (k0+Mk.cnt x)):=by
 have hc:=cnt_Sy x
 obtain⟨v1,v2,rfl,H0⟩:=H.unSy
 refine CallE.gen fun k hk=>EN_laws_markSystem rfl ?_
 simp -implicitDefEqProofs (disch:=omega)[wrap64]
 refine (c_markIntS (x:=x.init) (k0:=k0) H0 (by omega) (by omega)).go ?_
 rintro _ h1 ⟨H,rfl⟩
 simp -implicitDefEqProofs (disch:=omega)[wrap64]
 refine (c_markProcessS (x:=x.procs) (k0:=k0+(Mk.cnt x.init:Nat)) H.sw1 (by omega) (by omega)).go ?_
 rintro _ h2 ⟨H,rfl⟩
 simp -implicitDefEqProofs (disch:=omega)[wrap64]
 refine RetK.keep (hk _ _ ⟨HS.mkSy (s:=Mk.wr k0 x) H.sw1,?_⟩)
 rw[hc];congr 1;push_cast;omega
theorem HS.only {g h:Heap}{Γ:List HP}{p:HP}(H:HS g (p::Γ) h):HS g [p] h:=by
 obtain⟨g',r,e,d,hp,H⟩:=H
 exact⟨g',r,e,d,hp,H.base⟩
def R2 {α:Type} [Ty α] (b:Bool) (y:α) (h:Heap) (u:Value) (h':Heap):Prop:=∃v,u=.tuple #[v,.bool b]∧HS h [ow v y] h'
theorem cnt_ints (l:List Int):Mk.cnt l=l.length:=by
 induction l with
 | nil=>rfl
 | cons b r ih=>show 1+cntL r=_;have:cntL r=Mk.cnt r:=rfl;rw[this,ih];simp;omega
theorem cnt_cons {α:Type} [Mk α] (x:α) (l:List α):Mk.cnt (x::l)=Mk.cnt x+Mk.cnt l:=rfl
theorem sz_cons {α:Type} [Sz α] (x:α) (l:List α):Sz.sz (x::l)=1+Sz.sz x+Sz.sz l:=by
 simp only[sz_list,szL,List.length_cons];omega
theorem cnt_le {α:Type} [Mk α] [Sz α] {c:Nat}:∀{l:List α},(∀x∈l,Mk.cnt x≤c*(1+Sz.sz x))→Mk.cnt l≤c*Sz.sz l
 | [],_=>by show 0≤_;omega
 | x::l,h=>by
  have h1:=cnt_le (l:=l) fun y hy=>h y (by simp[hy])
  have h2:=h x (by simp)
  rw[cnt_cons,sz_cons,Nat.mul_add]
  omega
theorem cnt_Expr':∀x:Exq,Mk.cnt x.kids≤2*Sz.sz x.kids:=by
 refine Exq.ind fun x ih=>cnt_le fun y hy=>?_
 have h1:=ih y hy
 rw[cnt_Exq,sz_Exq];omega
theorem cnt_ExprS' (l:List Exq):Mk.cnt l≤2*Sz.sz l:=cnt_Expr' (Exq.mk 0 0 l)
theorem cnt_EdgeS' (l:List Ed):Mk.cnt l≤8*Sz.sz l:=cnt_le fun e _=>by
 have h1:=cnt_ExprS' e.guard.kids
 have h2:=cnt_ExprS' e.value.kids
 have h3:Sz.sz e=Sz.sz e.guard.kids+Sz.sz e.value.kids:=by rw[← sz_Exq,← sz_Exq];rfl
 rw[cnt_Ed,h3];omega
theorem cnt_ProcessS' (l:List Pr):Mk.cnt l≤8*Sz.sz l:=cnt_le fun p _=>by
 have h1:=cnt_EdgeS' p.edges
 have h3:Sz.sz p=Sz.sz p.edges:=rfl
 rw[cnt_Pr,h3];omega
theorem cnt_System {x:Sy}(h:Sz.sz x≤1048576):Mk.cnt x≤8388608:=by
 have h1:=cnt_ProcessS' x.procs
 have h2:=cnt_ints x.init
 have h3:Sz.sz x=Sz.sz x.init+Sz.sz x.procs:=rfl
 have h4:=sz_list x.init
 rw[cnt_Sy];omega
theorem Rep.cut {α:Type} [Ty α] {h:Heap}{v:Value}{l:List α}(R:Rep h v l) {n esz:Nat}{k:IntKind}(hn:n≤l.length):∃v',sliceVV esz v none (some (some (.int k n))) none=some v'∧Rep h v' (l.take n):=by
 obtain⟨p,cap,rfl,h1,h2,h3⟩:=Rep_list.1 R
 have hl:(l.take n).length=n:=by simp;omega
 have hc:n≤cap:=by omega
 cases n with
 | zero=>
  cases p with
  | none=>
   refine⟨.slice none 0 cap,?_,Rep_list.2 ⟨none,cap,by simp,by simp,trivial,fun i hi=>by simp at hi⟩⟩
   simp[sliceVV,bndV]
  | some a=>
   by_cases hz:cap=0
   ·refine⟨.slice (some a) 0 cap,?_,Rep_list.2 ⟨some a,cap,by simp,by simp,trivial,fun i hi=>by simp at hi⟩⟩
    simp[sliceVV,bndV,hz]
   ·refine⟨.slice (some (a.add 0)) 0 cap,?_,Rep_list.2 ⟨some (a.add 0),cap,by simp,by simp,trivial,fun i hi=>by simp at hi⟩⟩
    simp[sliceVV,bndV,hz]
 | succ n=>
  obtain⟨b,off,vs,rfl,_⟩:=h3 0 (by omega)
  refine⟨.slice (some ⟨b,off,none⟩) (n+1) cap,?_,Rep_list.2 ⟨_,cap,by rw[hl],by rw[hl];omega,trivial,fun i hi=>?_⟩⟩
  ·simp[sliceVV,bndV,add_none]
   rw[if_pos (by omega)]
  ·rw[hl] at hi
   obtain⟨b',off',vs,e1,e2,e3⟩:=h3 i (by omega)
   exact⟨b',off',vs,e1,e2,by simpa using e3⟩
def Dst (l:List Int) (n:Nat):Prop:=∀(i:Nat) (hi:i<l.length),0≤l[i]∧l[i]<n∧l[i]∉l.take i
noncomputable instance instDecDst {l:List Int}{n:Nat}:Decidable (Dst l n):=Classical.propDecidable _
theorem Dst.le {l:List Int}{n:Nat}(h:Dst l n):l.length≤n:=by
 have h1:(l.map Int.toNat).Nodup:=by
  rw[List.nodup_iff_pairwise_ne,List.pairwise_iff_getElem]
  intro i j hi hj hij he
  simp only[List.length_map] at hi hj
  simp only[List.getElem_map] at he
  have a:=h i hi
  have b:=h j hj
  refine b.2.2 ?_
  have e2:l[i]=l[j]:=by omega
  rw[← e2]
  exact List.mem_iff_getElem.2 ⟨i,by simp;omega,by simp⟩
 have h2:(l.map Int.toNat) ⊆ List.range n:=by
  intro x hx
  obtain⟨y,hy,rfl⟩:=List.mem_map.1 hx
  obtain⟨i,hi,rfl⟩:=List.mem_iff_getElem.1 hy
  have:=h i hi
  rw[List.mem_range];omega
 simpa using List.Nodup.length_le_of_subset h1 h2
structure Gr.Ok (g:Gr):Prop where
 n1:1≤g.states.length
 n60:g.states.length≤60
 nl:g.next.length=g.states.length
 vs:∀st∈g.states,VOk st.vals
 nx:∀l∈g.next,l≠[]∧Dst l g.states.length
noncomputable instance instDecGrOk {g:Gr}:Decidable g.Ok:=Classical.propDecidable _
instance instTyU8:Ty (BitVec 8) where
 agg:=false
 sz:=1
 rep:=fun _ cs n=>cs=[.int .u8 n.toNat]
 own:=fun r cs n=>r=Heap.nil∧cs=[.int .u8 n.toNat]
 one:=fun _=>rfl
 len:=by rintro h cs x rfl;rfl
 cell:=by rintro h cs x rfl v hv;simp at hv;subst hv;rfl
 mono:=fun _ hr=>hr
 own_rep:=fun ho=>ho.2
instance instFlatU8:Flat (BitVec 8):=⟨fun n=>[.int .u8 n.toNat],fun _=>True,by simp[Ty.rep],by simp[Ty.own]⟩
abbrev rb (b:Nat) (sl:Value) (p:Int):HP:=bx b [sl,.int .i64 p]
theorem Tx_mk {l:List UInt8}:(⟨l.toArray⟩:ByteArray)=Tx l:=rfl
attribute [simp] Tx_mk Tx_size Tx_add
@[simp] theorem mxA {a b:Nat}(h:a+b<4611686018427387904):(9223372036854775807<(a:Int)+(b:Int))=False:=by
 simp only[eq_iff_iff,iff_false];omega
@[simp] theorem mxD {a:Nat}(h:a+1<4611686018427387904):(9223372036854775807<(a:Int)+1)=False:=by
 simp only[eq_iff_iff,iff_false];omega
@[simp] theorem mxE {a:Nat}(h:a+1<4611686018427387904):(9223372036854775807<1+(a:Int))=False:=by
 simp only[eq_iff_iff,iff_false];omega
@[simp] theorem mxF {a b:Nat}(h:a+b<4611686018427387904):(9223372036854775807<(a:Int)+1+(b:Int))=False:=by
 simp only[eq_iff_iff,iff_false];omega
@[simp] theorem mxB {a b:Nat}(h:a+b<4611686018427387904):(9223372036854775807<(a:Int)+(b:Int)+1)=False:=by
 simp only[eq_iff_iff,iff_false];omega
@[simp] theorem mxC {a b:Nat}(h:a+b<4611686018427387904):(9223372036854775807<1+((a:Int)+(b:Int)))=False:=by
 simp only[eq_iff_iff,iff_false];omega
theorem encB:∀l:List (BitVec 8),encL l=l.map fun x=>Value.int .u8 x.toNat
 | []=>rfl
 | x::l=>by rw[encL_cons,encB l];rfl
theorem HS.bstr {P:Program}{k:Env→Heap→Prop}{e:Env}{h:Heap}{v:Value}{l:List (BitVec 8)}(R:Rep h v l) (t:List UInt8) (ht:(l.map fun x=>(⟨x⟩:UInt8))=t) (hl:0<l.length) {a:O}{dst:Nat}(ha:a.get e=some v) (K:k (eset e dst (some (.string (Tx t)))) h) :
  (A.ex (some dst) (.bstr a)).wp P k e h:=by
 subst ht
 obtain⟨p,cap,rfl,h1,h2,h3⟩:=Rep_list.1 R
 obtain⟨b,off,vs,rfl,_⟩:=h3 0 hl
 have h4:=repL_enc h3
 refine⟨b,off,l.length,cap,l.map fun x=>⟨x⟩,ha,?_,Fgt.keep K⟩
 have e1:l.length*Ty.sz (BitVec 8)=l.length:=Nat.mul_one _
 rw[e1] at h4
 rw[h4]
 congr 1
 rw[List.map_map]
 exact encB l
theorem u8_small {m:Nat}(h:m<256):IntKind.u8.wrap (m:Int)=(m:Int):=by
 simp only[IntKind.wrap,IntKind.bits,IntKind.signed]
 simp
 omega
structure Sta.Ok (s:Sy) (st:Sta):Prop where
 len:st.locs.length=s.procs.length
 vs:VOk st.vals
 lc:∀(i:Nat) (h1:i<st.locs.length) (h2:i<s.procs.length),0≤st.locs[i]∧st.locs[i]<s.procs[i].locs
noncomputable instance instDecStaOk {s:Sy}{st:Sta}:Decidable (st.Ok s):=Classical.propDecidable _
theorem c_has {h:Heap}{v w:Value}{s:Sy}{st:Sta}(hs:s.Ok) (R:Rep h v s) (Rt:Rep h w st):CallE Try.prog fn_impl_System_has [v,w] h (fun u h'=>h.le h'∧u=.bool (decide (st.Ok s))):=by
 obtain⟨v1,v2,rfl,R1,R2⟩:=Rep_Sy.1 R
 obtain⟨w1,w2,rfl,T1,T2⟩:=Rep_Sta.1 Rt
 have hL1:=R2.lt
 have hL2:=T1.lt
 refine CallE.gen fun k hk=>EN_impl_System_has rfl ?_
 have hno:∀{h'},h.le h'→¬st.Ok s→k (.bool false) h':=fun hl hh=>hk _ _ ⟨hl,by rw[decide_eq_false hh]⟩
 by_cases q1:(st.locs.length:Int)=s.procs.length
 case neg=>simp -implicitDefEqProofs (disch:=first|omega|(simp only[LnZ];omega))[wrap64,T1.len,R2.len,q1];exact RetK.keep (hno (Heap.le.refl _) fun hh=>q1 (by rw[hh.len]))
 simp -implicitDefEqProofs (disch:=first|omega|(simp only[LnZ];omega))[wrap64,T1.len,R2.len,q1]
 refine (c_valsOk T2).go ?_
 rintro _ h1 ⟨l1,rfl⟩
 by_cases q2:VOk st.vals
 case neg=>simp -implicitDefEqProofs (disch:=first|omega|(simp only[LnZ];omega))[wrap64,q2];exact RetK.keep (hno l1 fun hh=>q2 hh.vs)
 have T1':=T1.le l1
 have R2':=R2.le l1
 simp -implicitDefEqProofs (disch:=first|omega|(simp only[LnZ];omega))[wrap64,q2,T1'.len]
 refine wp_count st.locs.length (fun i e h'=>e=[none,none,some (.agg #[v1,v2]),none,none,none,none,some w1,some (.int .i64 st.locs.length),some (.int .i64 i)]∧h'=h1∧∀(j:Nat) (a:j<st.locs.length) (b:j<s.procs.length),j<i→0≤st.locs[j]∧st.locs[j]<s.procs[j].locs) ⟨by simp[q1],rfl,fun j _ _ hj=>absurd hj (Nat.not_lt_zero j)⟩ ?_
 rintro J i _ h2 hJ hi ⟨rfl,rfl,hall⟩
 simp -implicitDefEqProofs (disch:=omega)[wrap64]
 refine IteW.mk (fun hlt=>?_) (fun hge=>?_)
 ·have hlx:i<st.locs.length:=by omega
  have hlp:i<s.procs.length:=by omega
  obtain⟨u,hu,Ru⟩:=R2'.ld hlp
  change hload _ (some (elp 2 v2 i)) (some 2)=some u at hu
  obtain⟨we,rfl,k1,R3⟩:=Rep_Pr.1 Ru
  have hP:=hld_parts hu
  have hp1:=(hs.at hlp).n1
  have hp4:=(hs.at hlp).n4
  simp -implicitDefEqProofs (disch:=first|omega|(simp only[LnZ];omega))[wrap64,T1'.I,R2'.X (n:=2) rfl,hP.1,hP.2.2.1]
  refine c_in.go ?_
  rintro _ h2 ⟨rfl,rfl⟩
  by_cases q3:0≤st.locs[i]∧st.locs[i]≤s.procs[i].locs-1
  case neg=>simp -implicitDefEqProofs (disch:=first|omega|(simp only[LnZ];omega))[wrap64,q3];exact RetK.keep (hno l1 fun hh=>q3 (by have:=hh.lc i hlx hlp;omega))
  simp -implicitDefEqProofs (disch:=first|omega|(simp only[LnZ];omega))[wrap64,q3]
  refine hJ _ _ hlx ⟨by simp,rfl,fun j a b hji=>?_⟩
  by_cases hji2:j=i
  ·subst hji2;omega
  ·exact hall j a b (by omega)
 ·simp -implicitDefEqProofs (disch:=omega)[wrap64]
  exact RetK.keep (hk _ _ ⟨l1,by rw[decide_eq_true (show st.Ok s from ⟨by omega,q2,fun i a b=>hall i a b (by omega)⟩)]⟩)
theorem c_spec_StateValid {h:Heap}{v w:Value}{s:Sy}{st:Sta}(R:Rep h v s) (Rt:Rep h w st):CallE Try.prog fn_spec_StateValid [v,w] h (fun u h'=>h'=h∧u=.bool (decide (s.Ok∧st.Ok s))):=by
 have F:=R.aSy
 obtain⟨v1,v2,rfl,R1,R2⟩:=Rep_Sy.1 R
 obtain⟨w1,w2,rfl,T1,T2⟩:=Rep_Sta.1 Rt
 have hL1:=R2.lt
 have hL2:=T1.lt
 refine CallE.gen fun k hk=>EN_spec_StateValid rfl ?_
 simp -implicitDefEqProofs (disch:=first|omega|(simp only[LnZ];omega))[wrap64,F]
 refine (c_spec_SystemValid R).go ?_
 rintro _ h ⟨rfl,rfl⟩
 have hno:¬(s.Ok∧st.Ok s)→k (.bool false) h:=fun hh=>hk _ _ ⟨rfl,by rw[decide_eq_false hh]⟩
 by_cases hs:s.Ok
 case neg=>simp -implicitDefEqProofs (disch:=first|omega|(simp only[LnZ];omega))[wrap64,hs];exact RetK.keep (hno fun hh=>hs hh.1)
 by_cases q1:(st.locs.length:Int)=s.procs.length
 case neg=>simp -implicitDefEqProofs (disch:=first|omega|(simp only[LnZ];omega))[wrap64,hs,T1.len,R2.len,q1];exact RetK.keep (hno fun hh=>q1 (by rw[hh.2.len]))
 simp -implicitDefEqProofs (disch:=first|omega|(simp only[LnZ];omega))[wrap64,hs,T1.len,R2.len,q1]
 refine (c_l1Vals T2).go ?_
 rintro _ h ⟨rfl,rfl⟩
 by_cases q2:VOk st.vals
 case neg=>simp -implicitDefEqProofs (disch:=first|omega|(simp only[LnZ];omega))[wrap64,q2];exact RetK.keep (hno fun hh=>q2 hh.2.vs)
 simp -implicitDefEqProofs (disch:=first|omega|(simp only[LnZ];omega))[wrap64,q2]
 refine wp_count st.locs.length (fun i e h'=>e=[none,none,some (.agg #[v1,v2]),some (.agg #[w1,w2]),none,some (.int .i64 i)]∧h'=h∧∀(j:Nat) (a:j<st.locs.length) (b:j<s.procs.length),j<i→0≤st.locs[j]∧st.locs[j]<s.procs[j].locs) ⟨by simp,rfl,fun j _ _ hj=>absurd hj (Nat.not_lt_zero j)⟩ ?_
 rintro J i _ h2 hJ hi ⟨rfl,rfl,hall⟩
 simp -implicitDefEqProofs (disch:=first|omega|(simp only[LnZ];omega))[wrap64,T1.len]
 refine IteW.mk (fun hlt=>?_) (fun hge=>?_)
 ·have hlx:i<st.locs.length:=by omega
  have hlp:i<s.procs.length:=by omega
  obtain⟨u,hu,Ru⟩:=R2.ld hlp
  change hload _ (some (elp 2 v2 i)) (some 2)=some u at hu
  obtain⟨we,rfl,k1,R3⟩:=Rep_Pr.1 Ru
  have hP:=hld_parts hu
  by_cases q3:st.locs[i]<0
  ·simp -implicitDefEqProofs (disch:=first|omega|(simp only[LnZ];omega))[wrap64,T1.I,q3];exact RetK.keep (hno fun hh=>by have:=hh.2.lc i hlx hlp;omega)
  by_cases q4:s.procs[i].locs≤st.locs[i]
  ·simp -implicitDefEqProofs (disch:=first|omega|(simp only[LnZ];omega))[wrap64,T1.I,q3,q4,R2.X (n:=2) rfl,hP.1,hP.2.2.1];exact RetK.keep (hno fun hh=>by have:=hh.2.lc i hlx hlp;omega)
  simp -implicitDefEqProofs (disch:=first|omega|(simp only[LnZ];omega))[wrap64,T1.I,q3,q4,R2.X (n:=2) rfl,hP.1,hP.2.2.1]
  refine hJ _ _ hlx ⟨by simp,rfl,fun j a b hji=>?_⟩
  by_cases hji2:j=i
  ·subst hji2;omega
  ·exact hall j a b (by omega)
 ·simp -implicitDefEqProofs (disch:=omega)[wrap64]
  exact RetK.keep (hk _ _ ⟨rfl,by rw[decide_eq_true (show s.Ok∧st.Ok s from ⟨hs,by omega,q2,fun i a b=>hall i a b (by omega)⟩)]⟩)
theorem zero_St {g h:Heap}{Γ:List HP}(H:HS g Γ h):HS g (ow (.agg #[.slice none 0 0,.slice none 0 0]) Sta.zero::Γ) h:=HS.mkSta (a:=Sta.zero) H.nil_ow.nil_ow
theorem Sta.Ok.d {s:Sy}{st:Sta}(hs:s.Ok) (h:st.Ok s):st.dOk:=by
 refine⟨fun n hn=>?_,fun n hn=>?_⟩
 ·obtain⟨i,hi,rfl⟩:=List.mem_iff_getElem.1 hn
  have hl:=h.len
  have h1:=h.lc i hi (by omega)
  have h2:=(hs.at (i:=i) (by omega)).n4
  omega
 ·have:=h.vs.2 n hn
  omega
theorem Sta.fmt_ok {st:Sta}(h:st.dOk):st.fmt=dgs st.locs++47::dgs st.vals:=by rw[Sta.fmt,if_pos h]
theorem Sta.fmt_spl {st:Sta}(h:st.dOk):spl 47 st.fmt=[dgs st.locs,dgs st.vals]:=by
 rw[Sta.fmt_ok h,spl_app (dgs_no h.1),spl_no (dgs_no h.2)]
noncomputable def psT (s:Sy) (t:List UInt8):Option Sta:=open Classical in if h:∃st:Sta,s.Ok∧st.Ok s∧st.fmt=t then some (Classical.choose h) else none
theorem psT_iff {s:Sy}{t:List UInt8}{st:Sta}:psT s t=some st↔s.Ok∧st.Ok s∧st.fmt=t:=by
 have uni:∀{a b:Sta},s.Ok→a.Ok s→b.Ok s→a.fmt=b.fmt→a=b:=by
  intro a b hs ha hb he
  have h1:=Sta.fmt_spl (ha.d hs)
  have h2:=Sta.fmt_spl (hb.d hs)
  rw[he,h2] at h1
  simp only[List.cons.injEq,and_true] at h1
  have e1:=congrArg nums h1.1
  have e2:=congrArg nums h1.2
  rw[nums_dgs (ha.d hs).1,nums_dgs (hb.d hs).1] at e1
  rw[nums_dgs (ha.d hs).2,nums_dgs (hb.d hs).2] at e2
  exact Sta.ext_iff'.2 ⟨e1.symm,e2.symm⟩
 unfold psT
 constructor
 ·intro h
  split at h
  ·rename_i hx
   have:=Classical.choose_spec hx
   rw[Option.some.injEq] at h
   rw[← h];exact this
  ·simp at h
 ·rintro⟨h1,h2,h3⟩
  have hx:∃st:Sta,s.Ok∧st.Ok s∧st.fmt=t:=⟨st,h1,h2,h3⟩
  rw[dif_pos hx]
  have:=Classical.choose_spec hx
  rw[uni h1 this.2.1 h2 (by rw[this.2.2,h3])]
theorem psT_none {s:Sy}{t:List UInt8}(h:∀st:Sta,s.Ok→st.Ok s→st.fmt≠t):psT s t=none:=by
 cases e:psT s t with
 | none=>rfl
 | some st=>
  obtain⟨h1,h2,h3⟩:=psT_iff.1 e
  exact absurd h3 (h st h1 h2)
theorem psT_spl {s:Sy}{t a b:List UInt8}(h:spl 47 t=[a,b]):psT s t=open Classical in if s.Ok∧(⟨nums a,nums b⟩:Sta).Ok s then some ⟨nums a,nums b⟩ else none:=by
 split
 ·rename_i hc
  rw[psT_iff]
  refine⟨hc.1,hc.2,?_⟩
  have hd:=hc.2.d hc.1
  rw[Sta.fmt_ok hd]
  simp only
  rw[dgs_nums hd.1,dgs_nums hd.2]
  have:=jn_spl (c:=47) t
  rw[h] at this
  exact this
 ·rename_i hc
  refine psT_none fun st hs hst he=>hc ⟨hs,?_⟩
  have h1:=Sta.fmt_spl (hst.d hs)
  rw[he,h] at h1
  simp only[List.cons.injEq,and_true] at h1
  rw[h1.1,h1.2,nums_dgs (hst.d hs).1,nums_dgs (hst.d hs).2]
  exact hst
theorem psT_len {s:Sy}{t:List UInt8}(h:(spl 47 t).length≠2):psT s t=none:=psT_none fun st hs hst he=>by
 have h1:=Sta.fmt_spl (hst.d hs)
 rw[he] at h1
 rw[h1] at h
 simp at h
def numv (c:UInt8):Int:=if 48≤c.toNat∧c.toNat≤57 then (c.toNat:Int)-48 else -1
def numvs (l:List UInt8):List Int:=l.map numv
theorem numv_dg {n:Int}(h0:0≤n) (h9:n≤9):numv (dg n)=n:=by
 have:=dg_nat h0 h9
 rw[numv,if_pos (by omega),dg_int h0 h9]
theorem numvs_dgs {l:List Int}(h:∀n∈l,0≤n∧n≤9):numvs (dgs l)=l:=by
 unfold numvs dgs
 rw[List.map_map]
 conv=>rhs;rw[← List.map_id l]
 exact List.map_congr_left fun n hn=>numv_dg (h n hn).1 (h n hn).2
def cutB (c:UInt8) (t:List UInt8):List UInt8×List UInt8×Bool:=match spl c t with
 | a::b::r=>(a,jn c (b::r),true)
 | _=>(t,[],false)
theorem psT_cut {s:Sy}{t:List UInt8}{st:Sta}(hst:st=⟨numvs (cutB 47 t).1,numvs (cutB 47 t).2.1⟩):psT s t=open Classical in if s.Ok∧st.Ok s∧st.fmt=t then some st else none:=by
 split
 ·rename_i hc;exact psT_iff.2 hc
 ·rename_i hc
  refine psT_none fun st' hs hst' he=>hc ?_
  have hd:=hst'.d hs
  have h1:=Sta.fmt_spl hd
  rw[he] at h1
  have:st=st':=by
   rw[hst,cutB,h1]
   simp only[jn]
   rw[numvs_dgs hd.1,numvs_dgs hd.2]
  rw[this]
  exact⟨hs,hst',he⟩
theorem lenTx {l:List UInt8}:lenSV (.string (Tx l))=some (.int .i64 l.length):=rfl
theorem idxTx {l:List UInt8}{kd:IntKind}{i:Nat}(h:i<l.length):idxSV (.string (Tx l)) (.int kd (i:Int))=some (.int .u8 ((l[i].toNat:Nat):Int)):=by
 unfold idxSV
 simp only
 rw[if_pos (by omega),Int.toNat_natCast]
 show (l.toArray[i]?).map _=_
 rw[List.getElem?_toArray,List.getElem?_eq_getElem h]
 rfl
theorem idxTx0 {l:List UInt8}{kd:IntKind}(h:0<l.length):idxSV (.string (Tx l)) (.int kd 0)=some (.int .u8 ((l[0].toNat:Nat):Int)):=idxTx (i:=0) h
theorem bndN {d n i:Nat}{k:IntKind}(h:i≤n):bndV d n (some (some (.int k (i:Int))))=some i:=by
 unfold bndV
 simp only
 rw[if_pos ⟨by omega,by omega⟩,Int.toNat_natCast]
theorem slcTx {l:List UInt8}{k k':IntKind}{a b:Nat}(h1:a≤b) (h2:b≤l.length):sliceSV (.string (Tx l)) (some (some (.int k (a:Int)))) (some (some (.int k' (b:Int))))=some (.string (Tx ((l.drop a).take (b-a)))):=by
 unfold sliceSV
 simp only
 rw[bndN (n:=(Tx l).size) h2]
 simp only
 rw[bndN h1]
 simp only
 rw[Tx_ext]
theorem slcTx0 {l:List UInt8}{k:IntKind}{b:Nat}(h2:b≤l.length):sliceSV (.string (Tx l)) none (some (some (.int k (b:Int))))=some (.string (Tx (l.take b))):=by
 unfold sliceSV
 simp only
 rw[bndN (n:=(Tx l).size) h2]
 simp only[bndV]
 rw[Tx_ext]
 rfl
theorem slcTxE {l:List UInt8}{k:IntKind}{a:Nat}(h1:a≤l.length):sliceSV (.string (Tx l)) (some (some (.int k (a:Int)))) none=some (.string (Tx (l.drop a))):=by
 unfold sliceSV
 simp only[bndV]
 rw[if_pos ⟨by omega,by have:(Tx l).size=l.length:=rfl;omega⟩]
 simp only[Int.toNat_natCast]
 rw[Tx_ext,List.take_of_length_le (by have:(Tx l).size=l.length:=rfl;simp)]
theorem Tx_data {l:List UInt8}:(Tx l).data.toList=l:=rfl
attribute [simp] lenTx idxTx idxTx0 Tx_data
def smallV:List UInt8→Int
 | [c]=>numv c
 | _=>-1
theorem smallV_rng {l:List UInt8}:-1≤smallV l∧smallV l≤9:=by
 unfold smallV
 split
 ·unfold numv;split<;>omega
 ·omega
theorem c_small {h:Heap}{l:List UInt8}:CallE Try.prog fn_impl_small [.string (Tx l)] h (fun u h'=>h'=h∧u=.int .i64 (smallV l)):=by
 refine CallE.gen fun k hk=>EN_impl_small rfl ?_
 match l with
 | []=>
  simp -implicitDefEqProofs (disch:=omega)[wrap64]
  exact RetK.keep (hk _ _ ⟨rfl,rfl⟩)
 | a::b::r=>
  have h1:¬((r.length:Int)+1+1=1):=by omega
  simp -implicitDefEqProofs (disch:=first|omega|(simp only[LnZ];omega))[wrap64,h1]
  exact RetK.keep (hk _ _ ⟨rfl,rfl⟩)
 | [c]=>
  have hc:=c.toNat_lt
  by_cases h1:c.toNat<48
  ·have h1i:(c.toNat:Int)<48:=by omega
   simp -implicitDefEqProofs (disch:=first|omega|(simp only[LnZ];omega))[wrap64,h1,h1i]
   exact RetK.keep (hk _ _ ⟨rfl,by rw[smallV,numv,if_neg (by omega)]⟩)
  have h1i:¬(c.toNat:Int)<48:=by omega
  by_cases h2:57<c.toNat
  ·have h2i:57<(c.toNat:Int):=by omega
   simp -implicitDefEqProofs (disch:=first|omega|(simp only[LnZ];omega))[wrap64,h1,h1i,h2,h2i]
   exact RetK.keep (hk _ _ ⟨rfl,by rw[smallV,numv,if_neg (by omega)]⟩)
  have h2i:¬57<(c.toNat:Int):=by omega
  have h3:IntKind.u8.wrap ((c.toNat:Int)-48)=((c.toNat-48:Nat):Int):=by rw[← u8_small (m:=c.toNat-48) (by omega)];congr 1;omega
  simp -implicitDefEqProofs (disch:=first|omega|(simp only[LnZ];omega))[wrap64,h1,h1i,h2,h2i,h3]
  exact RetK.keep (hk _ _ ⟨rfl,by rw[smallV,numv,if_pos (by omega)];congr 1;omega⟩)
theorem c_readDigits {h:Heap}{l:List UInt8}(hl:l.length≤4294967296):CallE Try.prog fn_impl_readDigits [.string (Tx l)] h (fun u h'=>HS h [ow u (numvs l)] h'):=by
 refine CallE.gen fun k hk=>EN_impl_readDigits rfl ?_
 simp -implicitDefEqProofs (disch:=omega)[wrap64]
 refine HS.init.mks (α:=Int) (z:=0) rfl rfl ⟨rfl,rfl,by decide,by decide⟩ (Nat.le_refl _) (by omega) (by omega) fun o h1 H=>?_
 simp -implicitDefEqProofs (disch:=first|omega|(simp only[LnZ];omega))[wrap64,H.rep.len]
 refine wp_count l.length (fun i e h'=>e=[some (.string (Tx l)),none,some o,none,some (.int .i64 l.length),some (.int .i64 i)]∧∃X:List Int,HS h [ow o X] h'∧X.length=l.length∧X.take i=(numvs l).take i) ⟨by simp,_,H,by simp,by simp⟩ ?_
 clear H
 rintro J i _ h2 hJ hi ⟨rfl,X,H,hX,ht⟩
 simp -implicitDefEqProofs (disch:=omega)[wrap64]
 refine IteW.mk (fun hlt=>?_) (fun hge=>?_)
 ·have hix:i<l.length:=by omega
  have hnl:(numvs l).length=l.length:=by simp[numvs]
  have hs:=slcTx (l:=l) (k:=.i64) (k':=.i64) (a:=i) (b:=i+1) (by omega) (by omega)
  have e1:(l.drop i).take (i+1-i)=[l[i]]:=by
   rw[show i+1-i=1 by omega,List.drop_eq_getElem_cons hix];rfl
  rw[e1] at hs
  have hs:sliceSV (.string (Tx l)) (some (some (.int .i64 (i:Int)))) (some (some (.int .i64 ((i:Int)+1))))=some (.string (Tx [l[i]])):=hs
  simp -implicitDefEqProofs (disch:=first|omega|(simp only[LnZ];omega))[wrap64,hs]
  refine c_small.go ?_
  rintro _ _ ⟨rfl,rfl⟩
  have hr:=smallV_rng (l:=[l[i]])
  simp -implicitDefEqProofs (disch:=first|omega|(simp only[LnZ];omega))[wrap64,H.rep.I]
  refine H.storeF (smallV [l[i]]) (i:=i) (by omega) rfl rfl ⟨by omega,by omega⟩ rfl fun h3 H=>?_
  simp -implicitDefEqProofs (disch:=omega)[wrap64]
  refine hJ _ _ hix ⟨by simp,_,H,by simpa using hX,?_⟩
  have e2:smallV [l[i]]=(numvs l)[i]'(by omega):=by simp[numvs,smallV]
  rw[e2]
  exact take_set_succ ht (by omega) (by omega)
 ·obtain rfl:i=l.length:=by omega
  have hnl:(numvs l).length=l.length:=by simp[numvs]
  have:=eq_of_take ht (by omega) (by omega)
  subst this
  simp -implicitDefEqProofs (disch:=omega)[wrap64]
  exact RetK.keep (hk _ _ H)
theorem c_l16Cut {h:Heap}{c:UInt8}{l:List UInt8}(hl:l.length≤4294967296):CallE Try.prog fn_spec_l16Cut [.string (Tx l),.int .u8 ((c.toNat:Nat):Int)] h (fun u h'=>HS h [ow u ((spl c l).map Tx)] h'):=by
 refine CallE.gen fun k hk=>EN_spec_l16Cut rfl ?_
 simp -implicitDefEqProofs (disch:=omega)[wrap64]
 refine HS.init.bls0 ByteArray fun o h1 H=>?_
 simp -implicitDefEqProofs (disch:=omega)[wrap64]
 refine wp_count (l.length+1) (fun i e h'=>∃(o:Value) (f:Nat),e=[some (.string (Tx l)),some (.int .u8 ((c.toNat:Nat):Int)),none,some o,some (.int .i64 f),some (.int .i64 i)]∧∃D:List (List UInt8),HS h [ow o (D.map Tx)] h'∧D.length≤i∧f≤i ∧
  (i≤l.length→D++spl c (l.drop f)=spl c l∧c∉(l.drop f).take (i-f))∧(l.length<i→D=spl c l)) ⟨o,0,by simp,[],H,by simp,by simp,fun _=>by simp,fun hh=>absurd hh (by omega)⟩ ?_
 clear H
 rintro J i _ h2 hJ hi ⟨o,f,rfl,D,H,hD,hf,hin,hout⟩
 simp -implicitDefEqProofs (disch:=omega)[wrap64]
 by_cases hlt:i<l.length+1
 case neg=>
  have h3:¬(i:Int)≤l.length:=by omega
  have h3':¬i≤l.length:=by omega
  simp -implicitDefEqProofs (disch:=first|omega|(simp only[LnZ];omega))[wrap64,h3,h3']
  rw[hout (by omega)] at H
  exact RetK.keep (hk _ _ H)
 have h3:i≤l.length:=by omega
 obtain⟨e1,hno⟩:=hin h3
 have hsl:=slcTx (l:=l) (k:=.i64) (k':=.i64) (a:=f) (b:=i) hf h3
 have hDl:(D.map Tx).length=D.length:=List.length_map _
 by_cases q1:i=l.length
 ·subst q1
  have hlast:(l.drop f).take (l.length-f)=l.drop f:=List.take_of_length_le (by simp)
  rw[hlast] at hno hsl
  rw[spl_no hno] at e1
  simp -implicitDefEqProofs (disch:=first|omega|(simp only[LnZ];omega))[wrap64,hsl]
  refine H.app1 (bytes:=16) (Tx (l.drop f)) rfl rfl rfl trivial rfl rfl (by omega) (by omega) fun o' h3 H=>?_
  simp -implicitDefEqProofs (disch:=omega)[wrap64]
  refine hJ _ _ (by omega) ⟨o',l.length+1,by simp,D++[l.drop f],?_,by simp;omega,by omega,fun hh=>absurd hh (by omega),fun _=>e1⟩
  simpa using H
 ·have hlx:i<l.length:=by omega
  have q1i:¬(i:Int)=l.length:=by omega
  have hdr:l.drop f=(l.drop f).take (i-f)++l[i]::l.drop (i+1):=by
   conv=>lhs;rw[← List.take_append_drop (i-f) (l.drop f)]
   rw[List.drop_drop,show f+(i-f)=i by omega,List.drop_eq_getElem_cons hlx]
  by_cases q2:l[i]=c
  ·rw[hdr,q2,spl_app hno] at e1
   have q2i:((l[i].toNat:Nat):Int)=((c.toNat:Nat):Int):=by rw[q2]
   simp -implicitDefEqProofs (disch:=first|omega|(simp only[LnZ];omega))[wrap64,h3,q1,q1i,q2i,hsl]
   refine H.app1 (bytes:=16) (Tx ((l.drop f).take (i-f))) rfl rfl rfl trivial rfl rfl (by omega) (by omega) fun o' h3 H=>?_
   simp -implicitDefEqProofs (disch:=omega)[wrap64]
   refine hJ _ _ (by omega) ⟨o',i+1,by simp,D++[(l.drop f).take (i-f)],?_,by simp;omega,by omega,fun _=>⟨by simpa using e1,by simp⟩,fun hh=>absurd hh (by omega)⟩
   simpa using H
  ·have q2i:¬((l[i].toNat:Nat):Int)=((c.toNat:Nat):Int):=fun e=>q2 (UInt8.toNat_inj.1 (by omega))
   have q2n:¬l[i].toNat=c.toNat:=fun e=>q2 (UInt8.toNat_inj.1 e)
   simp -implicitDefEqProofs (disch:=first|omega|(simp only[LnZ];omega))[wrap64,h3,q1,q1i,q2,q2i,q2n]
   refine hJ _ _ (by omega) ⟨o,f,by simp,D,H,by omega,by omega,fun _=>⟨e1,?_⟩,fun hh=>absurd hh (by omega)⟩
   rw[show i+1-f=(i-f)+1 by omega,List.take_add_one]
   intro hm
   rcases List.mem_append.1 hm with hm | hm
   ·exact hno hm
   ·rw[List.getElem?_drop,show f+(i-f)=i by omega,List.getElem?_eq_getElem hlx] at hm
    simp only[Option.toList_some,List.mem_singleton] at hm
    exact q2 hm.symm
theorem c_l3Numbers {h:Heap}{l:List UInt8}(hl:l.length≤4294967296):CallE Try.prog fn_spec_l3Numbers [.string (Tx l)] h (fun u h'=>HS h [ow u (nums l)] h'):=by
 refine CallE.gen fun k hk=>EN_spec_l3Numbers rfl ?_
 simp -implicitDefEqProofs (disch:=omega)[wrap64]
 refine HS.init.bls0 Int fun o h1 H=>?_
 simp -implicitDefEqProofs (disch:=omega)[wrap64]
 refine wp_count l.length (fun i e h'=>∃o,e=[some (.string (Tx l)),none,some o,some (.int .i64 i)]∧HS h [ow o (nums (l.take i))] h') ⟨o,by simp,by simpa[nums] using H⟩ ?_
 clear H
 rintro J i _ h2 hJ hi ⟨o,rfl,H⟩
 have hnl:(nums (l.take i)).length≤l.length:=by simp[nums];omega
 simp -implicitDefEqProofs (disch:=omega)[wrap64]
 refine IteW.mk (fun hlt=>?_) (fun hge=>?_)
 ·have hix:i<l.length:=by omega
  have hb:=l[i].toNat_lt
  simp -implicitDefEqProofs (disch:=first|omega|(simp only[LnZ];omega))[wrap64,setC]
  refine H.app1 (bytes:=8) ((l[i].toNat:Int)-48) rfl rfl rfl ⟨by omega,by omega⟩ rfl rfl (by omega) (by omega) fun o' h3 H=>?_
  simp -implicitDefEqProofs (disch:=omega)[wrap64]
  refine hJ _ _ hix ⟨o',by simp,?_⟩
  have:nums (l.take (i+1))=nums (l.take i)++[(l[i].toNat:Int)-48]:=by
   rw[List.take_add_one,List.getElem?_eq_getElem hix,nums,List.map_append];rfl
  rw[this];exact H
 ·obtain rfl:i=l.length:=by omega
  rw[List.take_length] at H
  simp -implicitDefEqProofs (disch:=omega)[wrap64]
  exact RetK.keep (hk _ _ H)
end Go.Proofs.Ytjbjnicobdpdhaa

namespace Go.Proofs.Ytjbjnicobdpdhaa
open Go Go.Shelf Go.RowKit Go.Proofs
def bl_ren:Ren:=⟨fun | 240=>84 | 276=>102 | 167=>63 | 169=>64 | n=>n,fun | 70=>102 | 9=>9 | 0=>0 | 72=>104 | 37=>40 | 127=>127 | 3=>3 | 5=>5 | 4=>4 | 20=>20 | 75=>107 | 80=>109 | 164=>145 | n=>n,fun | n=>n⟩
theorem bl167:Go.Proofs.Lays.n167 Try.prog bl_ren:={
 mixed:=by kernel_rfl
 f167:=Try.func63.trans (congrArg some (by kernel_rfl))
 f240:=Try.func84.trans (congrArg some (by kernel_rfl))
 f276:=Try.func102.trans (congrArg some (by kernel_rfl))
 t0:=Try.underlying0
 a0:=Try.isAgg0
 z0:=Try.sizeOf0
 v0:=Try.zeroValue0
 t4:=Try.underlying4
 a4:=Try.isAgg4
 z4:=Try.sizeOf4
 v4:=Try.zeroValue4
 t5:=Try.underlying5
 a5:=Try.isAgg5
 z5:=Try.sizeOf5
 v5:=Try.zeroValue5
 t9:=Try.underlying9
 a9:=Try.isAgg9
 z9:=Try.sizeOf9
 v9:=Try.zeroValue9
 t20:=Try.underlying20
 a20:=Try.isAgg20
 z20:=Try.sizeOf20
 v20:=Try.zeroValue20
 t37:=Try.underlying40
 a37:=Try.isAgg40
 z37:=Try.sizeOf40
 v37:=Try.zeroValue40
 t70:=Try.underlying102
 a70:=Try.isAgg102
 z70:=Try.sizeOf102
 v70:=Try.zeroValue102
 t72:=Try.underlying104
 a72:=Try.isAgg104
 z72:=Try.sizeOf104
 v72:=Try.zeroValue104
 t75:=Try.underlying107
 a75:=Try.isAgg107
 z75:=Try.sizeOf107
 v75:=Try.zeroValue107
 t164:=Try.underlying145
 a164:=Try.isAgg145
 z164:=Try.sizeOf145
 v164:=Try.zeroValue145 }
theorem bl169:Go.Proofs.Lays.n169 Try.prog bl_ren:={
 mixed:=by kernel_rfl
 f169:=Try.func64.trans (congrArg some (by kernel_rfl))
 t0:=Try.underlying0
 a0:=Try.isAgg0
 z0:=Try.sizeOf0
 v0:=Try.zeroValue0
 t3:=Try.underlying3
 a3:=Try.isAgg3
 z3:=Try.sizeOf3
 v3:=Try.zeroValue3
 t9:=Try.underlying9
 a9:=Try.isAgg9
 z9:=Try.sizeOf9
 v9:=Try.zeroValue9
 t37:=Try.underlying40
 a37:=Try.isAgg40
 z37:=Try.sizeOf40
 v37:=Try.zeroValue40
 t70:=Try.underlying102
 a70:=Try.isAgg102
 z70:=Try.sizeOf102
 v70:=Try.zeroValue102
 t72:=Try.underlying104
 a72:=Try.isAgg104
 z72:=Try.sizeOf104
 v72:=Try.zeroValue104
 t127:=Try.underlying127
 a127:=Try.isAgg127
 z127:=Try.sizeOf127
 v127:=Try.zeroValue127 }
theorem blX:Builder.Extra Try.prog bl_ren:={
 sizeBuilder:=by kernel_rfl
 liesBuilder:=by kernel_rfl
 t5:=Try.underlying5
 a5:=Try.isAgg5
 z5:=Try.sizeOf5
 v5:=Try.zeroValue5
 infoByte:=by kernel_rfl
 cellsByte:=by kernel_rfl
 sizeByte:=by kernel_rfl
 neB5:=by decide }
theorem bl_WriteByte (B b:Nat) (bs:List Value) (c:Int) (w:World) (h:Lib.IsBuilder 104 5 B b bs w) (hlen:bs.length+1≤140737488355328) (hBw:B≤w.heap.size) :
  Calls Try.prog 63 #[.pointer (some ⟨b,0,none⟩),.int .u8 c] w fun e w'=>e=.returned .nilIface∧(Lib.BuilderAt 104 5 B b (.pointer (some ⟨b,0,none⟩)) (bs++[.int .u8 c]) w'∧Below B w w'):=Any.Builder_WriteByte bl167 blX B b bs c w h hlen hBw
theorem bl_String (B b:Nat) (l:List UInt8) (w:World) (h:Lib.IsBuilder 104 5 B b (Lib.byteCells l) w) (hBw:B≤w.heap.size) :
  Calls Try.prog 64 #[.pointer (some ⟨b,0,none⟩)] w fun e w'=>e=.returned (.string ⟨l.toArray⟩)∧Below B w w':=Any.Builder_String_any bl169 blX B b l w h hBw
set_option maxHeartbeats 4000000 in
set_option maxRecDepth 1000000 in
theorem digits_walk (p:Option Addr) (cap:Nat) (xs:List Int) (w:World) (hc:∀(j:Nat) x,xs[j]? = some x→∃bk o,p=some ⟨bk,o,none⟩∧w.cell? ⟨bk,o+j,none⟩=some (.int .i64 x)∧bk<w.heap.size) (hl:xs.length<140737488355328) :
  Calls Try.prog 39 #[.slice p xs.length cap] w fun e w'=>e=.returned (.tuple #[.string ⟨(if xs.all okD then xs.map dg else []).toArray⟩,.bool (xs.all okD)])∧Below w.heap.size w w':=by
 go_enter Try.func39,Try.ntmps39
 go_wp2
 go_loopw [6,9] (fun v i wr=>∃k:Nat,k≤xs.length∧i=.int .i64 k∧Lib.IsBuilder 104 5 w.heap.size w.heap.size (Lib.byteCells ((xs.take k).map dg)) wr∧Below w.heap.size w wr∧(xs.take k).all okD=true) (fun _ i _=>xs.length-(intOf i).toNat)
 case atStart=>
  refine⟨0,by omega,rfl,?_,(Below.refl _ w).alloc (Nat.le_refl _) _,rfl⟩
  exact Lib.fresh_isBuilder 104 5 w
 case round=>
  obtain⟨k,hk,rfl,hI,hB,hall⟩:=hrel
  by_cases hlt:k<xs.length
  ·obtain⟨bk,o,rfl,hx,hbk⟩:=hc k xs[k] (List.getElem?_eq_getElem hlt)
   have hx2:wr.cell? ⟨bk,o+k,none⟩=some (.int .i64 xs[k]):=by rw[hB.cell (p:=⟨bk,o+k,none⟩) hbk];exact hx
   by_cases h9:0≤xs[k]∧xs[k]≤9
   ·have g1:¬xs[k]<0:=by omega
    have hx3:∀p,p=(⟨bk,o+k,none⟩:Addr)→wr.cell? p=some (.int .i64 xs[k]):=fun p e=>e▸hx2
    have hsz:w.heap.size≤wr.heap.size:=hB.size
    have hbl:(Lib.byteCells ((xs.take k).map dg)).length+1≤140737488355328:=by rw[Lib.byteCells_length];simp;omega
    go_wp2_with (first
     | (go_at_call 63;refine (bl_WriteByte w.heap.size w.heap.size _ _ _ hI hbl hsz).mono ?_)
     | go_in)
    intro e1 W1 he h1 b1
    go_wp2
    go_roundw
    case rel=>
     refine⟨k+1,by omega,by go_num,?_,hB.trans b1,?_⟩
     ·have hn:xs[k].toNat<208:=by omega
      have hd:Lib.byteCells [dg xs[k]]=[.int .u8 (48+xs[k])]:=by
       simp only[Lib.byteCells,dg,List.map_cons,List.map_nil]
       rw[UInt8.toNat_ofNat']
       congr 2
       omega
      rw[List.take_add_one,List.getElem?_eq_getElem hlt,List.map_append,Lib.byteCells_append,Option.toList_some,List.map_cons,List.map_nil,hd,List.map_take]
      exact Or.inr h1
     ·rw[List.take_add_one,List.getElem?_eq_getElem hlt,List.all_append,hall]
      simp[okD,h9]
    case measure=>simp[intOf];omega
   ·have hno:xs.all okD=false:=by
     rw[List.all_eq_false]
     exact⟨xs[k],List.getElem_mem hlt,by simp only[okD,h9];decide⟩
    by_cases g0:0≤xs[k]
    ·have g9:¬xs[k]≤9:=fun g=>h9 ⟨g0,g⟩
     go_wp2_with (first | go_in)
     all_goals
      go_ret2
      exact⟨rfl,hB⟩
    ·have g9:xs[k]<0:=by omega
     go_wp2_with (first | go_in)
     all_goals
      go_ret2
      exact⟨rfl,hB⟩
  ·have hxs:xs.take k=xs:=List.take_of_length_le (by omega)
   rw[hxs] at hI hall
   go_wp2_with (first | (go_at_call 64;refine (bl_String w.heap.size w.heap.size _ _ hI hB.size).mono ?_))
   rintro e W1 ⟨rfl,b1⟩
   go_wp2
   go_ret2
   exact⟨rfl,hB.trans b1⟩
theorem calle_below {P:Program}{f:FuncId}{fn:Func}{args:List Value}{h:Heap}{v:Value}(hf:P.funcs[f]? = some fn) (hname:(fn.name == "runtime.NumGoroutine")=false) (hb:fn.body.isSome=true)
  (hc:∀w,h.sub w→Calls P f args.toArray w fun e w'=>e=.returned v∧Below w.heap.size w w'):CallE P f args h (fun u h'=>h'=h∧u=v):=by
 intro w hw
 obtain⟨bd,hbd⟩:=Option.isSome_iff_exists.1 hb
 have hname':¬fn.name = "runtime.NumGoroutine":=by simpa using hname
 have hcall:(callFunc f args.toArray).run P w=.ok (.enter f args.toArray) w:=by
  simp[callFunc,hf,hname',hbd]
 rw[hcall]
 refine Calls.mono (hc w hw) ?_
 rintro e w' ⟨rfl,hB⟩
 have hold:∀b o,h b=some o→b<w.heap.size:=fun b o hb=>(Array.getElem?_eq_some_iff.1 (hw b o hb)).1
 refine⟨v,h,rfl,⟨rfl,rfl⟩,fun b o hb=>?_,hB.tape,hB.os,hB.output,hB.size,fun b hb _=>hB.block b hb,fun b _ hn=>hn⟩
 rw[hB.block b (hold b o hb)]
 exact hw b o hb
theorem c_digits {h:Heap}{v:Value}{l:List Int}(R:Rep h v l) (hl:l.length<140737488355328):CallE Try.prog fn_impl_digits [v] h (fun u h'=>h'=h∧u=.tuple #[.string (Tx (dgR l)),.bool (okR l)]):=by
 obtain⟨p,cap,rfl,h1,_,h3⟩:=Rep_list.1 R
 refine calle_below Try.func39 (by kernel_rfl) (by kernel_rfl) fun w hw=>?_
 refine digits_walk p cap l w (fun j x hj=>?_) hl
 obtain⟨hj1,hj2⟩:=List.getElem?_eq_some_iff.1 hj
 obtain⟨b,off,vs,hp,hc,hv⟩:=h3 j hj1
 have hv:vs=[.int .i64 l[j]]:=hv.1
 rw[hj2] at hv
 subst hv
 have e1:hcell h b (off+j)=some (.int .i64 x):=by
  have:=hc
  simp only[show Ty.sz Int=1 from rfl,Nat.mul_one,hcells] at this
  split at this
  ·rename_i v r hv hr
   simp only[Option.some.injEq,List.cons.injEq] at this
   rw[hv,this.1]
  ·simp at this
 have e2:=hcell_sub hw e1
 refine⟨b,off,hp,e2,?_⟩
 have e3:∃o,h b=some o:=by
  unfold hcell at e1
  split at e1
  ·rename_i c el fr hb;exact⟨_,hb⟩
  ·simp at e1
 obtain⟨o,ho⟩:=e3
 exact (Array.getElem?_eq_some_iff.1 (hw b o ho)).1
end Go.Proofs.Ytjbjnicobdpdhaa

namespace Go.Proofs.Ytjbjnicobdpdhaa
open Go Go.Shelf
def sh_lays219_ren:Ren:=⟨fun | 219=>74 | 217=>93 | 225=>94 | 224=>95 | 267=>96 | 266=>109 | 314=>110 | n=>n,fun | 9=>9 | 3=>3 | 4=>4 | 5=>5 | 46=>140 | 146=>153 | 51=>152 | n=>n,fun | 1=>0 | n=>n⟩
theorem sh_lays219:Go.Proofs.Lays.n219 Try.prog sh_lays219_ren:={
 mixed:=by kernel_rfl
 f217:=Try.func93.trans (congrArg some (by kernel_rfl))
 f219:=Try.func74.trans (congrArg some (by kernel_rfl))
 f224:=Try.func95.trans (congrArg some (by kernel_rfl))
 f225:=Try.func94.trans (congrArg some (by kernel_rfl))
 f266:=Try.func109.trans (congrArg some (by kernel_rfl))
 f267:=Try.func96.trans (congrArg some (by kernel_rfl))
 f314:=Try.func110.trans (congrArg some (by kernel_rfl))
 t3:=Try.underlying3
 a3:=Try.isAgg3
 z3:=Try.sizeOf3
 v3:=Try.zeroValue3
 t4:=Try.underlying4
 a4:=Try.isAgg4
 z4:=Try.sizeOf4
 v4:=Try.zeroValue4
 t5:=Try.underlying5
 a5:=Try.isAgg5
 z5:=Try.sizeOf5
 v5:=Try.zeroValue5
 t9:=Try.underlying9
 a9:=Try.isAgg9
 z9:=Try.sizeOf9
 v9:=Try.zeroValue9
 t46:=Try.underlying140
 a46:=Try.isAgg140
 z46:=Try.sizeOf140
 v46:=Try.zeroValue140
 t51:=Try.underlying152
 a51:=Try.isAgg152
 z51:=Try.sizeOf152
 v51:=Try.zeroValue152
 t146:=Try.underlying153
 a146:=Try.isAgg153
 z146:=Try.sizeOf153
 v146:=Try.zeroValue153
 g1:=by kernel_rfl }
open Go.RowKit Go.Lib in
theorem sh_stringslite_Index_one (s:ByteArray) (c:UInt8) (w:World) :
  Calls Try.prog 74 #[.string s,.string ⟨#[c]⟩] w fun e w'=>e=.returned (.int .i64 (Lib.indexByte s.data.toList c))∧w'=w:=Any.stringslite_Index_one sh_lays219 s c w
theorem c_spec_ParseState {h:Heap}{v:Value}{s:Sy}{t:List UInt8}(R:Rep h v s) (ht:t.length≤1048576):CallE Try.prog fn_spec_ParseState [v,.string (Tx t)] h (R2 (psT s t).isSome ((psT s t).getD Sta.zero) h):=by
 have FS:=R.aSy
 refine CallE.gen fun k hk=>EN_spec_ParseState rfl ?_
 have c47:(47:Int)=(((47:UInt8).toNat:Nat):Int):=rfl
 have nil:∀{h':Heap},h.le h'→psT s t=none→k (.tuple #[.agg #[.slice none 0 0,.slice none 0 0],.bool false]) h':=fun hl he=>hk _ _ ⟨_,by rw[he];rfl,by rw[he];exact zero_St (Γ:=[]) hl⟩
 simp -implicitDefEqProofs (disch:=first|omega|(simp only[LnZ];omega))[wrap64,FS]
 rw[c47]
 refine (c_l16Cut (by omega)).go ?_
 intro w h1 H
 have hlm:((spl 47 t).map Tx).length=(spl 47 t).length:=List.length_map _
 by_cases q1:(spl 47 t).length=2
 case neg=>
  have q1i:¬((spl 47 t).length:Int)=2:=by omega
  simp -implicitDefEqProofs (disch:=first|omega|(simp only[LnZ];omega))[wrap64,H.rep.len,hlm,q1,q1i,setC]
  exact RetK.keep (nil H.base (psT_len q1))
 obtain⟨a,b,hab⟩:∃a b,spl 47 t=[a,b]:=by
  match e:spl 47 t,q1 with
  | [a,b],_=>exact⟨a,b,rfl⟩
 have hps:=psT_spl (s:=s) hab
 have hjn:=jn_spl (c:=47) t
 rw[hab] at hjn H
 have hjn:a++47::b=t:=hjn
 have hlen:a.length+(b.length+1)=t.length:=by rw[← hjn];simp
 have hS:=H.rep.S
 simp -implicitDefEqProofs (disch:=first|omega|(simp only[LnZ];omega))[wrap64,hab,H.rep.len,hS]
 refine (c_l3Numbers (l:=a) (by omega)).go ?_
 intro w1 h2 H1
 have H:=H1.app H
 have hS2:=H.sw1.rep.S
 have o1:=H.rep.one
 have c1:=H.rep.cells
 simp -implicitDefEqProofs (disch:=first|omega|(simp only[LnZ];omega))[wrap64,hS2]
 refine (c_l3Numbers (l:=b) (by omega)).go ?_
 intro w2 h3 H2
 have H:=H2.app H
 have o2:=H.rep.one
 have c2:=H.rep.cells
 have RS:Rep h3 (.agg #[w1,w2]) (⟨nums a,nums b⟩:Sta):=Rep_Sta.2 ⟨w1,w2,rfl,H.sw1.rep,H.rep⟩
 have FT:=RS.aSta
 simp -implicitDefEqProofs (disch:=first|omega|(simp only[LnZ];omega))[wrap64,setC,o1,o2,c1,c2,FS]
 refine (c_spec_StateValid (R.on H) RS).go ?_
 rintro _ h4 ⟨rfl,rfl⟩
 by_cases q2:s.Ok∧(⟨nums a,nums b⟩:Sta).Ok s
 ·have hp:psT s t=some ⟨nums a,nums b⟩:=by rw[hps];exact if_pos q2
  simp -implicitDefEqProofs (disch:=first|omega|(simp only[LnZ];omega))[wrap64,q2,setC,o1,o2,c1,c2]
  refine RetK.keep (hk _ _ ⟨_,by rw[hp];rfl,?_⟩)
  rw[hp,Option.getD_some]
  exact HS.mkSta (a:=⟨nums a,nums b⟩) (H.sw1.under fun _ H=>H.under fun _ H=>H.drop)
 ·have hp:psT s t=none:=by rw[hps];exact if_neg q2
  simp -implicitDefEqProofs (disch:=first|omega|(simp only[LnZ];omega))[wrap64,q2,setC]
  exact RetK.keep (nil H.base hp)
theorem calle_same {P:Program}{f:FuncId}{fn:Func}{args:List Value}{h:Heap}{v:Value}(hf:P.funcs[f]? = some fn) (hname:(fn.name == "runtime.NumGoroutine")=false) (hb:fn.body.isSome=true)
  (hc:∀w,h.sub w→Calls P f args.toArray w fun e w'=>e=.returned v∧w'=w):CallE P f args h (fun u h'=>h'=h∧u=v):=
 calle_below hf hname hb fun w hw=>(hc w hw).mono fun e w' ⟨h1,h2⟩=>⟨h1,h2▸Go.RowKit.Below.refl _ _⟩
theorem c_Index1 {h:Heap}{c:UInt8}{l:List UInt8}:CallE Try.prog fn_internal_stringslite_Index [.string (Tx l),.string (Tx [c])] h (fun u h'=>h'=h∧u=.int .i64 (Lib.indexByte l c)):=
 calle_same Try.func74 (by kernel_rfl) (by kernel_rfl) fun w _=>sh_stringslite_Index_one (Tx l) c w
theorem index_cut {c:UInt8}{l:List UInt8}:(Lib.indexByte l c = -1∧cutB c l=(l,[],false))∨∃o:Nat,o<l.length∧Lib.indexByte l c=o∧cutB c l=(l.take o,l.drop (o+1),true):=by
 by_cases h:Lib.indexByte l c = -1
 ·refine .inl ⟨h,?_⟩
  have hn:=Lib.indexByte_none h
  have hm:c∉l:=fun hm=>by
   obtain⟨k,hk,e⟩:=List.mem_iff_getElem.1 hm
   exact hn k (by rw[List.getElem?_eq_getElem hk,e])
  rw[cutB,spl_no hm]
 ·have hge:=Lib.indexByte_ge l c
  obtain⟨o,ho⟩:∃o:Nat,Lib.indexByte l c=o:=⟨(Lib.indexByte l c).toNat,by omega⟩
  obtain⟨h1,h2⟩:=Lib.indexByte_some ho
  obtain⟨hlt,he⟩:=List.getElem?_eq_some_iff.1 h1
  refine .inr ⟨o,hlt,ho,?_⟩
  have hd:l=l.take o++c::l.drop (o+1):=by
   conv=>lhs;rw[← List.take_append_drop o l,List.drop_eq_getElem_cons hlt,he]
  have hno:c∉l.take o:=fun hm=>by
   obtain⟨k,hk,e⟩:=List.mem_iff_getElem.1 hm
   rw[List.length_take] at hk
   rw[List.getElem_take] at e
   exact h2 k (by omega) (by rw[List.getElem?_eq_getElem (by omega),e])
  rw[cutB]
  conv=>lhs;rw[hd]
  rw[spl_app hno]
  cases e:spl c (l.drop (o+1)) with
  | nil=>exact absurd e spl_ne
  | cons x r=>
   simp only
   rw[← e,jn_spl]
theorem c_stringsliteCut1 {h:Heap}{c:UInt8}{l:List UInt8}(hl:l.length≤4294967296):CallE Try.prog fn_internal_stringslite_Cut [.string (Tx l),.string (Tx [c])] h (fun u h'=>h'=h∧u=.tuple #[.string (Tx (cutB c l).1),.string (Tx (cutB c l).2.1),.bool (cutB c l).2.2]):=by
 refine CallE.gen fun k hk=>EN_internal_stringslite_Cut rfl ?_
 simp -implicitDefEqProofs (disch:=omega)[wrap64]
 refine c_Index1.go ?_
 rintro _ _ ⟨rfl,rfl⟩
 rcases index_cut (c:=c) (l:=l) with ⟨h1,h2⟩ | ⟨o,h1,h2,h3⟩
 ·rw[h1]
  simp -implicitDefEqProofs (disch:=omega)[wrap64]
  exact RetK.keep (hk _ _ ⟨rfl,by rw[h2]⟩)
 ·rw[h2]
  rw[h3] at hk
  have e1:=slcTx0 (l:=l) (k:=.i64) (b:=o) (by omega)
  have e2:=slcTxE (l:=l) (k:=.i64) (a:=o+1) (by omega)
  have e2:sliceSV (.string (Tx l)) (some (some (.int .i64 ((o:Int)+1)))) none=some (.string (Tx (l.drop (o+1)))):=e2
  simp -implicitDefEqProofs (disch:=first|omega|(simp only[LnZ];omega))[wrap64,e1,e2]
  exact RetK.keep (hk _ _ ⟨rfl,rfl⟩)
theorem c_Cut1 {h:Heap}{c:UInt8}{l:List UInt8}(hl:l.length≤4294967296):CallE Try.prog fn_strings_Cut [.string (Tx l),.string (Tx [c])] h (fun u h'=>h'=h∧u=.tuple #[.string (Tx (cutB c l).1),.string (Tx (cutB c l).2.1),.bool (cutB c l).2.2]):=by
 refine CallE.gen fun k hk=>EN_strings_Cut rfl ?_
 simp -implicitDefEqProofs (disch:=omega)[wrap64]
 refine (c_stringsliteCut1 hl).go ?_
 rintro _ _ ⟨rfl,rfl⟩
 simp -implicitDefEqProofs (disch:=omega)[wrap64]
 exact RetK.keep (hk _ _ ⟨rfl,rfl⟩)
theorem cutB_len {c:UInt8}{l:List UInt8}:(cutB c l).1.length≤l.length∧(cutB c l).2.1.length≤l.length:=by
 rcases index_cut (c:=c) (l:=l) with ⟨_,h2⟩ | ⟨o,h1,_,h3⟩
 ·rw[h2];simp
 ·rw[h3];simp;omega
theorem c_FormatState {h:Heap}{v:Value}{st:Sta}(R:Rep h v st) (h1:st.locs.length≤1048576) (h2:st.vals.length≤1048576):CallE Try.prog fn_impl_FormatState [v] h (fun u h'=>h'=h∧u=.string (Tx st.fmt)):=by
 have FS:=R.aSta
 obtain⟨v1,v2,rfl,R1,R2'⟩:=Rep_Sta.1 R
 rw[Sta.fmt_eq]
 refine CallE.gen fun k hk=>EN_impl_FormatState rfl ?_
 simp -implicitDefEqProofs (disch:=first|omega|(simp only[LnZ];omega))[wrap64,FS,setC,R1.one,R2'.one]
 refine (c_digits R1 (by omega)).go ?_
 rintro _ _ ⟨rfl,rfl⟩
 simp -implicitDefEqProofs (disch:=first|omega|(simp only[LnZ];omega))[wrap64,FS,setC,R1.one,R2'.one]
 refine (c_digits R2' (by omega)).go ?_
 rintro _ _ ⟨rfl,rfl⟩
 have hd1:=dgR_len (l:=st.locs)
 have hd2:=dgR_len (l:=st.vals)
 cases q1:okR st.locs with
 | false=>
  simp -implicitDefEqProofs (disch:=omega)[wrap64]
  exact RetK.keep (hk _ _ ⟨rfl,by simp[q1]⟩)
 | true=>
  cases q2:okR st.vals with
  | false=>
   simp -implicitDefEqProofs (disch:=omega)[wrap64]
   exact RetK.keep (hk _ _ ⟨rfl,by simp[q2]⟩)
  | true=>
   simp -implicitDefEqProofs (disch:=omega)[wrap64]
   exact RetK.keep (hk _ _ ⟨rfl,by simp[q1,q2]⟩)
theorem c_StateValidT {h:Heap}{v w:Value}{s:Sy}{st:Sta}(R:Rep h v s) (Rt:Rep h w st):CallE Try.prog fn_impl_StateValid [v,w] h (fun u h'=>h.le h'∧u=.bool (decide (s.Ok∧st.Ok s))):=by
 have FS:=R.aSy
 have FT:=Rt.aSta
 refine CallE.gen fun k hk=>EN_impl_StateValid rfl ?_
 simp -implicitDefEqProofs (disch:=first|omega|(simp only[LnZ];omega))[wrap64,FS,FT]
 refine (c_SystemValid R).go ?_
 rintro _ h1 ⟨l1,rfl⟩
 by_cases q:s.Ok
 case neg=>
  simp -implicitDefEqProofs (disch:=first|omega|(simp only[LnZ];omega))[wrap64,q]
  exact RetK.keep (hk _ _ ⟨l1,by simp[q]⟩)
 simp -implicitDefEqProofs (disch:=first|omega|(simp only[LnZ];omega))[wrap64,q,FS,FT]
 refine (c_has q (R.le l1) (Rt.le l1)).go ?_
 rintro _ h2 ⟨l2,rfl⟩
 simp -implicitDefEqProofs (disch:=omega)[wrap64]
 exact RetK.keep (hk _ _ ⟨l1.trans l2,by simp[q]⟩)
theorem c_ParseState {h:Heap}{v:Value}{s:Sy}{t:List UInt8}(R:Rep h v s) (ht:t.length≤1048576):CallE Try.prog fn_impl_ParseState [v,.string (Tx t)] h (R2 (psT s t).isSome ((psT s t).getD Sta.zero) h):=by
 have FS:=R.aSy
 refine CallE.gen fun k hk=>EN_impl_ParseState rfl ?_
 have nil:∀{h':Heap},h.le h'→psT s t=none→k (.tuple #[.agg #[.slice none 0 0,.slice none 0 0],.bool false]) h':=fun hl he=>hk _ _ ⟨_,by rw[he];rfl,by rw[he];exact zero_St (Γ:=[]) hl⟩
 simp -implicitDefEqProofs (disch:=first|omega|(simp only[LnZ];omega))[wrap64,FS]
 refine (c_Cut1 (c:=47) (l:=t) (by omega)).go ?_
 rintro _ _ ⟨rfl,rfl⟩
 obtain⟨la,lb⟩:=cutB_len (c:=47) (l:=t)
 have hps:=psT_cut (s:=s) (t:=t) rfl
 generalize (cutB 47 t).1=a at *
 generalize (cutB 47 t).2.1=b at *
 have hna:(numvs a).length=a.length:=by simp[numvs]
 have hnb:(numvs b).length=b.length:=by simp[numvs]
 simp -implicitDefEqProofs (disch:=omega)[wrap64]
 refine (c_readDigits (l:=a) (by omega)).go ?_
 intro w1 h2 H1
 simp -implicitDefEqProofs (disch:=omega)[wrap64]
 refine (c_readDigits (l:=b) (by omega)).go ?_
 intro w2 h3 H2
 have H:=H2.app H1
 have o1:=H.sw1.rep.one
 have c1:=H.sw1.rep.cells
 have o2:=H.rep.one
 have c2:=H.rep.cells
 have RS:Rep h3 (.agg #[w1,w2]) (⟨numvs a,numvs b⟩:Sta):=Rep_Sta.2 ⟨w1,w2,rfl,H.sw1.rep,H.rep⟩
 have FT:=RS.aSta
 simp -implicitDefEqProofs (disch:=first|omega|(simp only[LnZ];omega))[wrap64,setC,o1,o2,c1,c2,FS]
 refine (c_StateValidT (R.on H) RS).go ?_
 rintro _ h4 ⟨l4,rfl⟩
 by_cases q2:s.Ok∧(⟨numvs a,numvs b⟩:Sta).Ok s
 case neg=>
  have hp:psT s t=none:=by rw[hps];exact if_neg fun hh=>q2 ⟨hh.1,hh.2.1⟩
  simp -implicitDefEqProofs (disch:=first|omega|(simp only[LnZ];omega))[wrap64,q2,setC]
  exact RetK.keep (nil (H.base.trans l4) hp)
 simp -implicitDefEqProofs (disch:=first|omega|(simp only[LnZ];omega))[wrap64,q2,setC,o1,o2,c1,c2]
 refine (c_FormatState (RS.le l4) (by simp only;omega) (by simp only;omega)).go ?_
 rintro _ _ ⟨rfl,rfl⟩
 by_cases q3:(⟨numvs a,numvs b⟩:Sta).fmt=t
 ·have hp:psT s t=some ⟨numvs a,numvs b⟩:=by rw[hps];exact if_pos ⟨q2.1,q2.2,q3⟩
  simp -implicitDefEqProofs (disch:=first|omega|(simp only[LnZ];omega))[wrap64,q3,setC,o1,o2,c1,c2]
  refine RetK.keep (hk _ _ ⟨_,by rw[hp];rfl,?_⟩)
  rw[hp,Option.getD_some]
  exact HS.mkSta (a:=⟨numvs a,numvs b⟩) ((H.le l4).sw1)
 ·have hp:psT s t=none:=by rw[hps];exact if_neg fun hh=>q3 hh.2.2
  simp -implicitDefEqProofs (disch:=first|omega|(simp only[LnZ];omega))[wrap64,q3,setC]
  exact RetK.keep (nil (H.base.trans l4) hp)
def Sy.ed (s:Sy) (i k:Nat):Ed:=(s.procs.getD i ⟨0,[]⟩).edges.getD k ⟨0,0,Exq.zero,0,Exq.zero,0⟩
theorem Rep.edge {h:Heap}{v:Value}{l:List Pr}(R:Rep h v l) {i k:Nat}(hi:i<l.length) (hk:k<l[i].edges.length) :
  ∃we w1 w2,hload h (some (elp 2 v i)) (some 2)=some (.agg ([.int .i64 l[i].locs,we]:List Value).toArray)∧Rep h we l[i].edges∧hload h (some (elp 10 we k)) (some 10)=some (.agg (l[i].edges[k].cs w1 w2).toArray) ∧
   l[i].edges[k].ok∧Rep h w1 l[i].edges[k].guard.kids∧Rep h w2 l[i].edges[k].value.kids:=by
 obtain⟨u,hu,Ru⟩:=R.ld hi
 obtain⟨we,rfl,k1,R3⟩:=Rep_Pr.1 Ru
 obtain⟨u2,hu2,Ru2⟩:=R3.ld hk
 obtain⟨w1,w2,rfl,ok,G1,G2⟩:=Rep_Ed.1 Ru2
 exact⟨we,w1,w2,hu,R3,hu2,ok,G1,G2⟩
theorem c_markState {g h:Heap}{Γ:List HP}{v:Value}{x:Sta}{k0:Int}(H:HS g (ow v x::Γ) h) (hk0:0≤k0) (hk1:k0+Mk.cnt x<4611686018427387904):CallE Try.prog fn_laws_markState [v,.int .i64 k0] h (fun u h'=>HS g (ow v (Mk.wr k0 x)::Γ) h'∧u=.int .i64 (k0+Mk.cnt x)):=by
 have hc:Mk.cnt x=Mk.cnt x.locs+Mk.cnt x.vals:=rfl
 obtain⟨v1,v2,rfl,H0⟩:=HS.unSta H
 refine CallE.gen fun k hk=>EN_laws_markState rfl ?_
 simp -implicitDefEqProofs (disch:=omega)[wrap64]
 refine (c_markIntS (k0:=k0) H0 (by omega) (by omega)).go ?_
 rintro _ h1 ⟨G1,rfl⟩
 have H1:=G1.bk1
 simp -implicitDefEqProofs (disch:=omega)[wrap64]
 refine (c_markIntS (k0:=k0+(Mk.cnt x.locs:Nat)) H1 (by omega) (by omega)).go ?_
 rintro _ h2 ⟨G2,rfl⟩
 have H2:=G2.bk1
 simp -implicitDefEqProofs (disch:=omega)[wrap64]
 refine RetK.keep (hk _ _ ⟨HS.mkSta H2,?_⟩)
 rw[hc];congr 1;omega
theorem c_heldState {h:Heap}{v:Value}{x:Sta}{k0:Int}(Rv:Rep h v x) (hk0:0≤k0) (hk1:k0+Mk.cnt x<4611686018427387904):CallE Try.prog fn_laws_heldState [v,.int .i64 k0] h (fun u h'=>h'=h∧u=.int .i64 (if Mk.wr k0 x=x then k0+Mk.cnt x else -1)):=by
 have hc:Mk.cnt x=Mk.cnt x.locs+Mk.cnt x.vals:=rfl
 have hw:Mk.wr k0 x=⟨Mk.wr (k0) x.locs,Mk.wr (k0+(Mk.cnt x.locs:Nat)) x.vals⟩:=rfl
 obtain⟨v1,v2,rfl,R1,R2⟩:=Rep_Sta.1 Rv
 refine CallE.gen fun k hk=>EN_laws_heldState rfl ?_
 simp -implicitDefEqProofs (disch:=omega)[wrap64]
 refine (c_heldIntS (k0:=k0) R1 (by omega) (by omega)).go ?_
 rintro _ _ ⟨rfl,rfl⟩
 by_cases m1:Mk.wr (k0) x.locs=x.locs
 case neg=>
  rw[if_neg m1]
  simp -implicitDefEqProofs (disch:=omega)[wrap64]
  refine RetK.keep (hk _ _ ⟨rfl,?_⟩)
  rw[if_neg]
  intro he
  rw[hw] at he
  exact m1 (congrArg Sta.locs he)
 rw[if_pos m1]
 simp -implicitDefEqProofs (disch:=omega)[wrap64]
 rw[IteW_neg (by omega)]
 simp -implicitDefEqProofs (disch:=omega)[wrap64]
 refine (c_heldIntS (k0:=k0+(Mk.cnt x.locs:Nat)) R2 (by omega) (by omega)).go ?_
 rintro _ _ ⟨rfl,rfl⟩
 by_cases m2:Mk.wr (k0+(Mk.cnt x.locs:Nat)) x.vals=x.vals
 case neg=>
  rw[if_neg m2]
  simp -implicitDefEqProofs (disch:=omega)[wrap64]
  refine RetK.keep (hk _ _ ⟨rfl,?_⟩)
  rw[if_neg]
  intro he
  rw[hw] at he
  exact m2 (congrArg Sta.vals he)
 rw[if_pos m2]
 simp -implicitDefEqProofs (disch:=omega)[wrap64]
 rw[IteW_neg (by omega)]
 simp -implicitDefEqProofs (disch:=omega)[wrap64]
 refine RetK.keep (hk _ _ ⟨rfl,?_⟩)
 rw[if_pos,hc]
 ·congr 1;omega
 ·rw[hw,m1,m2]
theorem Stp.rep {h:Heap}{t:Stp}(ok:t.ok):Rep h t.v t:=Rep_Stp.2 ⟨rfl,ok⟩
theorem cnt_okS {s:Sy}{st:Sta}(hs:s.Ok) (h:st.Ok s):Mk.cnt st≤6:=by
 have h1:=h.len
 have h2:=hs.p3
 have h3:=h.vs.len
 rw[cnt_Sta,cnt_ints,cnt_ints];omega
theorem bnd_ParseState {s:Sy}{t:List UInt8}:Mk.cnt ((psT s t).getD Sta.zero)≤4194304:=by
 cases h:psT s t with
 | none=>decide
 | some st=>
  obtain⟨h1,h2,_⟩:=psT_iff.1 h
  have:=cnt_okS h1 h2
  rw[Option.getD_some];omega
set_option maxHeartbeats 4000000 in
theorem c_FnExactParseState {h:Heap}{v0:Value}{a0:Sy}(R0:Rep h v0 a0) {v1:Value}{a1:ByteArray}(R1:Rep h v1 a1):CallE Try.prog fn_laws_FnExactParseState [v0,v1] h (fun u h'=>h.le h'∧u=.bool true):=by
 have e1:v1=.string (Tx a1.data.toList):=by
  obtain⟨cs,e,hc⟩:=R1
  have hc:cs=[.string a1]:=hc
  subst hc
  exact e
 subst e1
 clear R1
 generalize a1.data.toList=t
 refine CallE.gen fun k hk=>EN_laws_FnExactParseState rfl ?_
 have F0:=R0.aSy
 by_cases ht:(1048576:Int)<t.length
 ·simp -implicitDefEqProofs (disch:=first|omega|(simp only[LnZ];omega))[wrap64,F0,ht]
  exact RetK.keep (hk _ _ ⟨Heap.le.refl _,rfl⟩)
 simp -implicitDefEqProofs (disch:=first|omega|(simp only[LnZ];omega))[wrap64,F0,ht]
 refine (c_szSystem R0 (n:=1048576) (by omega)).go ?_
 rintro _ h ⟨rfl,l0,rfl,q0⟩
 simp -implicitDefEqProofs (disch:=first|omega|(simp only[LnZ];omega))[wrap64,F0]
 refine IteW.mk (fun hlt=>?_) (fun hge0=>?_)
 ·simp -implicitDefEqProofs (disch:=omega)[wrap64]
  exact RetK.keep (hk _ _ ⟨Heap.le.refl _,rfl⟩)
 have qq0:Sz.sz a0≤1048576:=by omega
 have hc0:=cnt_System (x:=a0) (by omega)
 have hcy:=bnd_ParseState (s:=a0) (t:=t)
 have H:HS h [] h:=HS.init
 simp -implicitDefEqProofs (disch:=first|omega|(simp only[LnZ];omega))[wrap64,F0]
 refine (c_toSystem R0 (by omega)).go ?_
 intro s0 m1 G
 have H:=G.app H
 have F3:=H.rep.aSy
 simp -implicitDefEqProofs (disch:=first|omega|(simp only[LnZ];omega))[wrap64,F0,F3]
 refine (c_spec_ParseState H.rep (by omega)).go ?_
 rintro _ m3 ⟨w0,rfl,G⟩
 have H:=G.app H
 have F5:=H.rep.aSta
 have H:=H.only
 generalize hB:(psT a0 t).isSome=B at *
 simp -implicitDefEqProofs (disch:=first|omega|(simp only[LnZ];omega))[wrap64,F0,F3,F5]
 refine (c_toSystem (R0.on H) (by omega)).go ?_
 intro x0 m4 G
 have H:=G.app H
 have F6:=H.rep.aSy
 simp -implicitDefEqProofs (disch:=first|omega|(simp only[LnZ];omega))[wrap64,F0,F3,F5,F6]
 refine (c_ParseState H.rep (by omega)).go ?_
 rintro _ m6 ⟨g0,rfl,G⟩
 have H:=G.app H
 have F8:=H.rep.aSta
 rw[hB]
 simp -implicitDefEqProofs (disch:=first|omega|(simp only[LnZ];omega))[wrap64,F0,F3,F5,F6,F8]
 refine (c_eqState H.rep H.sw2.rep).go ?_
 rintro _ _ ⟨rfl,rfl⟩
 simp -implicitDefEqProofs (disch:=first|omega|(simp only[LnZ];omega))[wrap64,F0,F3,F5,F6,F8]
 refine (c_toSystem (R0.on H) (by omega)).go ?_
 intro t0 m7 G
 have H:=G.app H
 have F9:=H.rep.aSy
 simp -implicitDefEqProofs (disch:=first|omega|(simp only[LnZ];omega))[wrap64,F0,F3,F5,F6,F8,F9]
 refine (c_eqSystem H.sw2.rep H.rep).go ?_
 rintro _ _ ⟨rfl,rfl⟩
 have H:=H.drop
 simp -implicitDefEqProofs (disch:=first|omega|(simp only[LnZ];omega))[wrap64,F0,F3,F5,F6,F8,F9]
 refine (c_markSystem (k0:=1) H.sw1 (by omega) (by omega)).go ?_
 rintro _ m9 ⟨H,rfl⟩
 have hneg:¬((1+(Mk.cnt a0:Nat):Int)<0):=by omega
 simp -implicitDefEqProofs (disch:=first|omega|(simp only[LnZ];omega))[wrap64,F0,F3,F5,F6,F8,F9,hneg]
 refine (c_eqState H.sw1.rep H.sw2.rep).go ?_
 rintro _ _ ⟨rfl,rfl⟩
 simp -implicitDefEqProofs (disch:=first|omega|(simp only[LnZ];omega))[wrap64,F0,F3,F5,F6,F8,F9,hneg]
 refine (c_markState (k0:=1) H.sw1 (by omega) (by omega)).go ?_
 rintro _ m11 ⟨H,rfl⟩
 have hcw:=fun y:Sta=>Mk.cnt_wr 1 y
 simp -implicitDefEqProofs (disch:=first|omega|(simp only[LnZ];omega))[wrap64,F0,F3,F5,F6,F8,F9,hneg]
 refine (c_heldState (k0:=1) H.rep (by omega) (by rw[hcw];omega)).go ?_
 rintro _ _ ⟨rfl,rfl⟩
 rw[if_pos (Mk.wr_wr 1 1 _),hcw]
 simp -implicitDefEqProofs (disch:=first|omega|(simp only[LnZ];omega))[wrap64,F0,F3,F5,F6,F8,F9,hneg]
 rw[IteW_neg (by omega)]
 simp -implicitDefEqProofs (disch:=first|omega|(simp only[LnZ];omega))[wrap64,F0,F3,F5,F6,F8,F9,hneg]
 refine (c_toSystem (R0.on H) (by omega)).go ?_
 intro y0 m12 G
 have H:=G.app H
 have F12:=H.rep.aSy
 simp -implicitDefEqProofs (disch:=first|omega|(simp only[LnZ];omega))[wrap64,F0,F3,F5,F6,F8,F9,hneg,F12]
 refine (c_ParseState H.rep (by omega)).go ?_
 rintro _ m14 ⟨z0,rfl,G⟩
 have H:=G.app H
 have F14:=H.rep.aSta
 rw[hB]
 simp -implicitDefEqProofs (disch:=first|omega|(simp only[LnZ];omega))[wrap64,F0,F3,F5,F6,F8,F9,hneg,F12,F14]
 refine (c_eqState H.rep H.sw4.rep).go ?_
 rintro _ _ ⟨rfl,rfl⟩
 simp -implicitDefEqProofs (disch:=first|omega|(simp only[LnZ];omega))[wrap64,F0,F3,F5,F6,F8,F9,hneg,F12,F14]
 refine (c_heldState (k0:=1) H.sw2.rep (by omega) (by rw[hcw];omega)).go ?_
 rintro _ _ ⟨rfl,rfl⟩
 rw[if_pos (Mk.wr_wr 1 1 _),hcw]
 simp -implicitDefEqProofs (disch:=first|omega|(simp only[LnZ];omega))[wrap64,F0,F3,F5,F6,F8,F9,hneg,F12,F14]
 rw[IteW_neg (by omega)]
 simp -implicitDefEqProofs (disch:=first|omega|(simp only[LnZ];omega))[wrap64,F0,F3,F5,F6,F8,F9,hneg,F12,F14]
 exact RetK.keep (hk _ _ ⟨H.base,rfl⟩)
end Go.Proofs.Ytjbjnicobdpdhaa
