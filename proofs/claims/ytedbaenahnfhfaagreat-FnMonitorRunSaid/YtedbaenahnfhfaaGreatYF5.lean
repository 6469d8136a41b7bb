/-
  Texts of this proof, one behind the other.
-/
import Derived.Test.YtedbaenahnfhfaaGreatYF4
set_option linter.all false
set_option linter.unusedVariables false
set_option linter.unusedSimpArgs false
set_option linter.defProp false
set_option maxRecDepth 1000000
namespace Go.Proofs.YtedbaenahnfhfaaGreat
open Go
theorem c_l5Arity {h:Heap}{n:Int}:CallE Tryz.prog fn_spec_l5Arity [.int .i64 n] h (fun u h'=>h'=h∧u=.int .i64 (Fm.arity n)):=by
 refine CallE.gen fun k hk=>EN_spec_l5Arity rfl ?_
 by_cases c1:n=1
 ·simp -implicitDefEqProofs (disch:=first|omega|(simp only[LnZ];omega))[wrap64,c1]
  exact RetK.keep (hk _ _ ⟨rfl,by simp[Fm.arity,c1]⟩)
 by_cases c2:n=2
 ·simp -implicitDefEqProofs (disch:=first|omega|(simp only[LnZ];omega))[wrap64,c1,c2]
  exact RetK.keep (hk _ _ ⟨rfl,by simp[Fm.arity,c2]⟩)
 by_cases c3:n=3
 ·simp -implicitDefEqProofs (disch:=first|omega|(simp only[LnZ];omega))[wrap64,c1,c2,c3]
  exact RetK.keep (hk _ _ ⟨rfl,by simp[Fm.arity,c3]⟩)
 by_cases c6:n=6
 ·simp -implicitDefEqProofs (disch:=first|omega|(simp only[LnZ];omega))[wrap64,c1,c2,c3,c6]
  exact RetK.keep (hk _ _ ⟨rfl,by simp[Fm.arity,c6]⟩)
 by_cases c9:n=9
 ·simp -implicitDefEqProofs (disch:=first|omega|(simp only[LnZ];omega))[wrap64,c1,c2,c3,c6,c9]
  exact RetK.keep (hk _ _ ⟨rfl,by simp[Fm.arity,c9]⟩)
 by_cases c10:n=10
 ·simp -implicitDefEqProofs (disch:=first|omega|(simp only[LnZ];omega))[wrap64,c1,c2,c3,c6,c9,c10]
  exact RetK.keep (hk _ _ ⟨rfl,by simp[Fm.arity,c10]⟩)
 by_cases c4:n=4
 ·simp -implicitDefEqProofs (disch:=first|omega|(simp only[LnZ];omega))[wrap64,c1,c2,c3,c6,c9,c10,c4]
  exact RetK.keep (hk _ _ ⟨rfl,by simp[Fm.arity,c4]⟩)
 by_cases c5:n=5
 ·simp -implicitDefEqProofs (disch:=first|omega|(simp only[LnZ];omega))[wrap64,c1,c2,c3,c6,c9,c10,c4,c5]
  exact RetK.keep (hk _ _ ⟨rfl,by simp[Fm.arity,c5]⟩)
 by_cases c7:n=7
 ·simp -implicitDefEqProofs (disch:=first|omega|(simp only[LnZ];omega))[wrap64,c1,c2,c3,c6,c9,c10,c4,c5,c7]
  exact RetK.keep (hk _ _ ⟨rfl,by simp[Fm.arity,c7]⟩)
 by_cases c8:n=8
 ·simp -implicitDefEqProofs (disch:=first|omega|(simp only[LnZ];omega))[wrap64,c1,c2,c3,c6,c9,c10,c4,c5,c7,c8]
  exact RetK.keep (hk _ _ ⟨rfl,by simp[Fm.arity,c8]⟩)
 simp -implicitDefEqProofs (disch:=first|omega|(simp only[LnZ];omega))[wrap64,c1,c2,c3,c4,c5,c6,c7,c8,c9,c10]
 exact RetK.keep (hk _ _ ⟨rfl,by simp[Fm.arity,c1,c2,c3,c4,c5,c6,c7,c8,c9,c10]⟩)
theorem c_l5Shape:∀(n:Nat) {x:Exq}{h:Heap}{v:Value}{dv:Int},dv=n→n≤6→Rep h v x→CallE Tryz.prog fn_spec_l5Shape [v,.int .i64 dv] h (fun u h'=>h'=h∧u=.bool (decide (Fm.Shp n x))):=by
 intro n
 induction n with
 | zero=>
  intro x h v dv hd _ R
  have hd:dv=0:=hd
  obtain⟨w,rfl,k1,k2,R1⟩:=Rep_Exq.1 R
  refine CallE.gen fun k hk=>EN_spec_l5Shape rfl ?_
  simp -implicitDefEqProofs (disch:=first|omega|(simp only[LnZ];omega))[wrap64,hd]
  exact RetK.keep (hk _ _ ⟨rfl,by rw[decide_eq_false (fun hh:Fm.Shp 0 x=>hh)]⟩)
 | succ n ih=>
  intro x h v dv hd hd6 R
  obtain⟨w,rfl,k1,k2,R1⟩:=Rep_Exq.1 R
  have hL:=R1.lt
  obtain⟨ln,hln⟩:∃ln:Int,ln=x.kids.length:=⟨_,rfl⟩
  have hlen:=R1.len
  rw[← hln] at hlen
  refine CallE.gen fun k hk=>EN_spec_l5Shape rfl ?_
  have hno:¬Fm.Shp (n+1) x→k (.bool false) h:=fun hh=>hk _ _ ⟨rfl,by rw[decide_eq_false hh]⟩
  simp -implicitDefEqProofs (disch:=first|omega|(simp only[LnZ];omega))[wrap64,hlen,show ¬dv<1 by omega]
  refine c_l5Arity.go ?_
  rintro _ h ⟨rfl,rfl⟩
  by_cases q1:ln=Fm.arity x.kind
  case neg=>simp -implicitDefEqProofs (disch:=first|omega|(simp only[LnZ];omega))[wrap64,q1];exact RetK.keep (hno fun hh=>q1 (by rw[hln];exact hh.1.ar))
  by_cases q2:x.val<0
  ·simp -implicitDefEqProofs (disch:=first|omega|(simp only[LnZ];omega))[wrap64,q1,q2];exact RetK.keep (hno fun hh=>by have:=hh.1.lo;omega)
  by_cases q3:3≤x.val
  ·simp -implicitDefEqProofs (disch:=first|omega|(simp only[LnZ];omega))[wrap64,q1,q2,q3];exact RetK.keep (hno fun hh=>by have:=hh.1.hi;omega)
  have hz:(x.kind=2)∨(x.kind≠2∧x.val≠0)∨(x.kind≠2∧x.val=0):=by omega
  rcases hz with c1 | ⟨c1,c2⟩ | ⟨c1,c2⟩
  case inr.inl=>simp -implicitDefEqProofs (disch:=first|omega|(simp only[LnZ];omega))[wrap64,q1,q2,q3,c1,c2];exact RetK.keep (hno fun hh=>c2 (hh.1.ze c1))
  ·simp -implicitDefEqProofs (disch:=first|omega|(simp only[LnZ];omega))[wrap64,q1,q2,q3,c1]
   refine wp_count x.kids.length (fun i e h'=>h'=h∧(∃kd vl:Int,kd=x.kind∧vl=x.val∧e=[none,some (.int .i64 dv),some (.agg #[.int .i64 kd,.int .i64 vl,w]),none,some (.int .i64 i)])∧∀y∈x.kids.take i,Fm.Shp n y) ⟨rfl,⟨_,_,rfl,rfl,by simp[c1]⟩,by simp⟩ ?_
   rintro J i _ _ hJ hi ⟨rfl,⟨kd,vl,hkd,hvl,rfl⟩,hall⟩
   simp -implicitDefEqProofs (disch:=first|omega|(simp only[LnZ];omega))[wrap64,R1.len]
   refine IteW.mk (fun hlt=>?_) (fun hge=>?_)
   ·have hlx:i<x.kids.length:=by omega
    obtain⟨u,hu,Ru⟩:=R1.ld hlx
    change hload _ (some (elp 3 w i)) (some 3)=some u at hu
    simp -implicitDefEqProofs (disch:=first|omega|(simp only[LnZ];omega))[wrap64,R1.X (n:=3) rfl,hu]
    refine (ih (dv:=dv-1) (by omega) (by omega) Ru).go ?_
    rintro _ _ ⟨rfl,rfl⟩
    by_cases q4:Fm.Shp n x.kids[i]
    case neg=>simp -implicitDefEqProofs (disch:=first|omega|(simp only[LnZ];omega))[wrap64,q4];exact RetK.keep (hno fun hh=>q4 (hh.kid hlx))
    simp -implicitDefEqProofs (disch:=first|omega|(simp only[LnZ];omega))[wrap64,q4]
    refine hJ _ _ hlx ⟨rfl,⟨kd,vl,hkd,hvl,by simp⟩,fun y hy=>?_⟩
    rw[List.take_add_one,List.getElem?_eq_getElem hlx] at hy
    rcases List.mem_append.1 hy with hy | hy
    ·exact hall y hy
    ·simp at hy;subst hy;exact q4
   ·simp -implicitDefEqProofs (disch:=omega)[wrap64]
    rw[List.take_of_length_le (by omega)] at hall
    refine RetK.keep (hk _ _ ⟨rfl,?_⟩)
    rw[decide_eq_true (show Fm.Shp (n+1) x from ⟨⟨by omega,by omega,by omega,by omega⟩,hall⟩)]
  ·simp -implicitDefEqProofs (disch:=first|omega|(simp only[LnZ];omega))[wrap64,q1,q2,q3,c1,c2]
   refine wp_count x.kids.length (fun i e h'=>h'=h∧(∃kd vl:Int,kd=x.kind∧vl=x.val∧e=[none,some (.int .i64 dv),some (.agg #[.int .i64 kd,.int .i64 vl,w]),none,some (.int .i64 i)])∧∀y∈x.kids.take i,Fm.Shp n y) ⟨rfl,⟨_,_,rfl,rfl,by simp[c1,c2]⟩,by simp⟩ ?_
   rintro J i _ _ hJ hi ⟨rfl,⟨kd,vl,hkd,hvl,rfl⟩,hall⟩
   simp -implicitDefEqProofs (disch:=first|omega|(simp only[LnZ];omega))[wrap64,R1.len]
   refine IteW.mk (fun hlt=>?_) (fun hge=>?_)
   ·have hlx:i<x.kids.length:=by omega
    obtain⟨u,hu,Ru⟩:=R1.ld hlx
    change hload _ (some (elp 3 w i)) (some 3)=some u at hu
    simp -implicitDefEqProofs (disch:=first|omega|(simp only[LnZ];omega))[wrap64,R1.X (n:=3) rfl,hu]
    refine (ih (dv:=dv-1) (by omega) (by omega) Ru).go ?_
    rintro _ _ ⟨rfl,rfl⟩
    by_cases q4:Fm.Shp n x.kids[i]
    case neg=>simp -implicitDefEqProofs (disch:=first|omega|(simp only[LnZ];omega))[wrap64,q4];exact RetK.keep (hno fun hh=>q4 (hh.kid hlx))
    simp -implicitDefEqProofs (disch:=first|omega|(simp only[LnZ];omega))[wrap64,q4]
    refine hJ _ _ hlx ⟨rfl,⟨kd,vl,hkd,hvl,by simp⟩,fun y hy=>?_⟩
    rw[List.take_add_one,List.getElem?_eq_getElem hlx] at hy
    rcases List.mem_append.1 hy with hy | hy
    ·exact hall y hy
    ·simp at hy;subst hy;exact q4
   ·simp -implicitDefEqProofs (disch:=omega)[wrap64]
    rw[List.take_of_length_le (by omega)] at hall
    refine RetK.keep (hk _ _ ⟨rfl,?_⟩)
    rw[decide_eq_true (show Fm.Shp (n+1) x from ⟨⟨by omega,by omega,by omega,by omega⟩,hall⟩)]
theorem c_l5Count:∀(n:Nat) {x:Exq}{h:Heap}{v:Value}{dv:Int},dv=n→n≤6→Fm.Shp n x→Rep h v x→CallE Tryz.prog fn_spec_l5Count [v,.int .i64 dv] h (fun u h'=>h'=h∧u=.int .i64 x.nod):=by
 intro n
 induction n with
 | zero=>intro x h v dv hd _ hs;exact hs.elim
 | succ n ih=>
  intro x h v dv hd hd6 hs R
  obtain⟨w,rfl,k1,k2,R1⟩:=Rep_Exq.1 R
  have hL:=R1.lt
  have hbnd:=hs.bnd
  have hpow:2^(n+1)≤2^6:=Nat.pow_le_pow_right (by decide) hd6
  have hnod:=x.nod_eq
  refine CallE.gen fun k hk=>EN_spec_l5Count rfl ?_
  simp -implicitDefEqProofs (disch:=omega)[wrap64]
  refine wp_count x.kids.length (fun i e h'=>h'=h∧e=[none,some (.int .i64 dv),some (.agg #[.int .i64 x.kind,.int .i64 x.val,w]),none,some (.int .i64 ((1+Exq.nods (x.kids.take i):Nat):Int)),some (.int .i64 i)]) ⟨rfl,by simp[Exq.nods]⟩ ?_
  rintro J i _ _ hJ hi ⟨rfl,rfl⟩
  by_cases hlt:i<x.kids.length
  ·obtain⟨u,hu,Ru⟩:=R1.ld hlt
   change hload _ (some (elp 3 w i)) (some 3)=some u at hu
   have hn1:=Exq.nods_take hlt
   have hn2:=Exq.nods_le x.kids (i+1)
   simp -implicitDefEqProofs (disch:=first|omega|(simp only[LnZ];omega))[wrap64,hlt,R1.len,R1.X (n:=3) rfl,hu,show 0<dv by omega]
   refine (ih (dv:=dv-1) (by omega) (by omega) (hs.kid hlt) Ru).go ?_
   rintro _ _ ⟨rfl,rfl⟩
   simp -implicitDefEqProofs (disch:=omega)[wrap64]
   refine hJ _ _ hlt ⟨rfl,?_⟩
   simp[hn1];omega
  ·simp -implicitDefEqProofs (disch:=first|omega|(simp only[LnZ];omega))[wrap64,hlt,R1.len]
   rw[List.take_of_length_le (by omega)]
   refine RetK.keep (hk _ _ ⟨rfl,?_⟩)
   rw[hnod];push_cast;rfl
theorem c_spec_FormulaValid {h:Heap}{v:Value}{x:Exq}(R:Rep h v x):CallE Tryz.prog fn_spec_FormulaValid [v] h (fun u h'=>h'=h∧u=.bool (decide (Fm.Ok x))):=by
 have F:=R.aExq
 refine CallE.gen fun k hk=>EN_spec_FormulaValid rfl ?_
 simp -implicitDefEqProofs (disch:=first|omega|(simp only[LnZ];omega))[wrap64,F]
 refine (c_l5Shape 6 (dv:=6) rfl (by omega) R).go ?_
 rintro _ _ ⟨rfl,rfl⟩
 by_cases q1:Fm.Shp 6 x
 case neg=>simp -implicitDefEqProofs (disch:=first|omega|(simp only[LnZ];omega))[wrap64,q1];exact RetK.keep (hk _ _ ⟨rfl,by rw[decide_eq_false (fun hh:Fm.Ok x=>q1 hh.1)]⟩)
 simp -implicitDefEqProofs (disch:=first|omega|(simp only[LnZ];omega))[wrap64,q1,F]
 refine (c_l5Count 6 (dv:=6) rfl (by omega) q1 R).go ?_
 rintro _ _ ⟨rfl,rfl⟩
 simp -implicitDefEqProofs (disch:=omega)[wrap64]
 refine RetK.keep (hk _ _ ⟨rfl,?_⟩)
 congr 1
 rw[Bool.eq_iff_iff]
 simp[Fm.Ok,q1]
 omega
theorem c_spec_FormulaSame:∀(x:Exq) {h:Heap}{a b:Value}{y:Exq},Rep h a x→Rep h b y→CallE Tryz.prog fn_spec_FormulaSame [a,b] h (fun u h'=>h'=h∧u=.bool (decide (x=y))):=by
 refine Exq.ind fun x ih h a b y Ra Rb=>?_
 obtain⟨w,rfl,k1,k2,R1⟩:=Rep_Exq.1 Ra
 obtain⟨w2,rfl,k3,k4,R2⟩:=Rep_Exq.1 Rb
 have hL:=R1.lt
 refine CallE.gen fun k hk=>EN_spec_FormulaSame rfl ?_
 by_cases h1:x.kind=y.kind
 case neg=>
  simp -implicitDefEqProofs (disch:=first|omega|(simp only[LnZ];omega))[wrap64,h1]
  exact RetK.keep (hk _ _ ⟨rfl,by simp[Exq.ext_iff',h1]⟩)
 by_cases h2:x.val=y.val
 case neg=>
  simp -implicitDefEqProofs (disch:=first|omega|(simp only[LnZ];omega))[wrap64,h1,h2]
  exact RetK.keep (hk _ _ ⟨rfl,by simp[Exq.ext_iff',h2]⟩)
 by_cases h3:(x.kids.length:Int)=y.kids.length
 case neg=>
  simp -implicitDefEqProofs (disch:=first|omega|(simp only[LnZ];omega))[wrap64,h1,h2,R1.len,R2.len,h3]
  exact RetK.keep (hk _ _ ⟨rfl,by rw[eq_comm,Value.bool.injEq,decide_eq_false_iff_not];intro e;rw[e] at h3;exact h3 rfl⟩)
 simp -implicitDefEqProofs (disch:=first|omega|(simp only[LnZ];omega))[wrap64,h1,h2,R1.len,R2.len,h3]
 refine wp_count x.kids.length (fun i e h'=>h'=h∧e=[none,none,some (.agg #[.int .i64 y.kind,.int .i64 y.val,w]),some (.agg #[.int .i64 y.kind,.int .i64 y.val,w2]),none,some (.int .i64 i)]∧x.kids.take i=y.kids.take i) ⟨rfl,by simp[h1,h2],rfl⟩ ?_
 rintro J i _ _ hJ hi ⟨rfl,rfl,hq⟩
 simp -implicitDefEqProofs (disch:=first|omega|(simp only[LnZ];omega))[wrap64,R1.len]
 refine IteW.mk (fun hlt=>?_) (fun hge=>?_)
 ·have hlx:i<x.kids.length:=by omega
  have hly:i<y.kids.length:=by omega
  obtain⟨u,hu,Ru⟩:=R1.ld hlx
  obtain⟨t,ht,Rt⟩:=R2.ld hly
  change hload _ (some (elp 3 w i)) (some 3)=some u at hu
  change hload _ (some (elp 3 w2 i)) (some 3)=some t at ht
  simp -implicitDefEqProofs (disch:=first|omega|(simp only[LnZ];omega))[wrap64,R1.X (n:=3) rfl,R2.X (n:=3) rfl,hu,ht,Ru.aExq,Rt.aExq]
  refine (ih _ (List.getElem_mem hlx) Ru Rt).go ?_
  rintro _ _ ⟨rfl,rfl⟩
  by_cases he:x.kids[i]=y.kids[i]
  ·simp -implicitDefEqProofs (disch:=first|omega|(simp only[LnZ];omega))[wrap64,he]
   exact hJ _ _ hlx ⟨rfl,by simp,take_step hq hlx hly he⟩
  ·simp -implicitDefEqProofs (disch:=first|omega|(simp only[LnZ];omega))[wrap64,he]
   exact RetK.keep (hk _ _ ⟨rfl,by rw[eq_comm,Value.bool.injEq,decide_eq_false_iff_not];intro e;subst e;exact he rfl⟩)
 ·simp -implicitDefEqProofs (disch:=omega)[wrap64]
  rw[List.take_of_length_le (by omega),List.take_of_length_le (by omega)] at hq
  exact RetK.keep (hk _ _ ⟨rfl,by simp[Exq.ext_iff',h1,h2,hq]⟩)
theorem c_l5Find {h:Heap}{v w:Value}{xs:List Exq}{x:Exq}(R:Rep h v xs) (Rx:Rep h w x):CallE Tryz.prog fn_spec_l5Find [v,w] h (fun u h'=>h'=h∧u=.int .i64 (Fm.fx xs x)):=by
 have hL:=R.lt
 have FX:=Rx.aExq
 refine CallE.gen fun k hk=>EN_spec_l5Find rfl ?_
 simp -implicitDefEqProofs (disch:=first|omega|(simp only[LnZ];omega))[wrap64,FX]
 refine wp_count xs.length (fun i e h'=>e=[some v,none,some w,none,some (.int .i64 i)]∧h'=h∧∀(j:Nat) (hj:j<xs.length),j<i→xs[j]≠x) ⟨by simp,rfl,fun j _ hj=>absurd hj (Nat.not_lt_zero j)⟩ ?_
 rintro J i _ h hJ hi ⟨rfl,rfl,hn⟩
 simp -implicitDefEqProofs (disch:=first|omega|(simp only[LnZ];omega))[wrap64,R.len]
 refine IteW.mk (fun hlt=>?_) (fun hge=>?_)
 ·have hlx:i<xs.length:=by omega
  obtain⟨u,hu,Ru⟩:=R.ld hlx
  change hload _ (some (elp 3 v i)) (some 3)=some u at hu
  simp -implicitDefEqProofs (disch:=first|omega|(simp only[LnZ];omega))[wrap64,R.X (n:=3) rfl,hu,FX,Ru.aExq]
  refine (c_spec_FormulaSame _ Ru Rx).go ?_
  rintro _ h ⟨rfl,rfl⟩
  by_cases e:xs[i]=x
  ·simp -implicitDefEqProofs (disch:=first|omega|(simp only[LnZ];omega))[wrap64,e]
   exact RetK.keep (hk _ _ ⟨rfl,by rw[Fm.fx_at hlx e hn]⟩)
  ·simp -implicitDefEqProofs (disch:=first|omega|(simp only[LnZ];omega))[wrap64,e]
   refine hJ _ _ hlx ⟨by simp,rfl,fun j hj hji=>?_⟩
   by_cases hji2:j=i
   ·subst hji2;exact e
   ·exact hn j hj (by omega)
 ·simp -implicitDefEqProofs (disch:=omega)[wrap64]
  refine RetK.keep (hk _ _ ⟨rfl,?_⟩)
  rw[Fm.fx_not]
  intro hm
  obtain⟨j,hj,h1⟩:=List.mem_iff_getElem.1 hm
  exact hn j hj (by omega) h1
theorem nod_kid {x:Exq}{i:Nat}(hi:i<x.kids.length):x.kids[i].nod+1≤x.nod:=by
 have e1:=Exq.nods_take hi
 have e2:=Exq.nods_le x.kids (i+1)
 rw[Exq.nod_eq x]
 omega
theorem nods_len:∀l:List Exq,l.length≤Exq.nods l
 | []=>by simp
 | x::l=>by
  have:=nods_len l
  have:=x.nod_eq
  simp only[List.length_cons,Exq.nods]
  omega
theorem c_l5Copy:∀(x:Exq) {h:Heap}{v:Value},x.nod≤1048576→Rep h v x→CallE Tryz.prog fn_spec_l5Copy [v] h (fun u h'=>HS h [ow u x] h'):=by
 refine Exq.ind fun x ih h v hs R=>?_
 obtain⟨w,rfl,k1,k2,R1⟩:=Rep_Exq.1 R
 have hL:=R1.lt
 have hkl:=nods_len x.kids
 have hne:=x.nod_eq
 refine CallE.gen fun k hk=>EN_spec_l5Copy rfl ?_
 simp -implicitDefEqProofs (disch:=first|omega|(simp only[LnZ];omega))[wrap64,setC]
 refine wp_count x.kids.length (fun i e h'=>∃o:Value,e=[none,some (.agg #[.int .i64 x.kind,.int .i64 x.val,w]),some (.agg #[.int .i64 0,.int .i64 0,.slice none 0 0]),some (.agg #[.int .i64 x.kind,.int .i64 x.val,o]),some (.int .i64 i)]∧HS h [ow o (x.kids.take i)] h') ⟨.slice none 0 0,by simp,by simpa using HS.init.nil_ow (α:=Exq)⟩ ?_
 rintro J i _ h2 hJ hi ⟨o,rfl,H⟩
 simp -implicitDefEqProofs (disch:=first|omega|(simp only[LnZ];omega))[wrap64,R1.len]
 refine IteW.mk (fun hlt=>?_) (fun hge=>?_)
 ·have hlx:i<x.kids.length:=by omega
  have hnk:=nod_kid hlx
  obtain⟨u,hu,Ru⟩:=R1.ld hlx
  have hu2:=hload_le H.base hu
  change hload _ (some (elp 3 w i)) (some 3)=some u at hu2
  simp -implicitDefEqProofs (disch:=first|omega|(simp only[LnZ];omega))[wrap64,R1.X (n:=3) rfl,hu2]
  refine (ih _ (List.getElem_mem hlx) (by omega) (Ru.on H)).go ?_
  intro y h3 G
  have H:=G.app H
  have FG:=G.rep.aExq
  obtain⟨y1,rfl,_,_,_⟩:=G.unExq
  simp -implicitDefEqProofs (disch:=first|omega|(simp only[LnZ];omega))[wrap64,FG,setC]
  refine HS.appO (bytes:=40) H rfl rfl rfl rfl rfl (by simp;omega) (by simp;omega) fun o' h4 H=>?_
  simp -implicitDefEqProofs (disch:=first|omega|(simp only[LnZ];omega))[wrap64,H.rep.cells,H.rep.one,setC]
  refine hJ _ _ hlx ⟨o',by simp,?_⟩
  rw[List.take_add_one,List.getElem?_eq_getElem hlx]
  exact H
 ·simp -implicitDefEqProofs (disch:=first|omega|(simp only[LnZ];omega))[wrap64,H.rep.one,setC]
  rw[List.take_of_length_le (by omega)] at H
  exact RetK.keep (hk _ _ (H.mkExq k1 k2))
theorem c_l5Subs:∀(x:Exq) {g h:Heap}{Γ:List HP}{v o:Value}{out:List Exq},out.length+x.nod≤1048576→Rep g v x→HS g (ow o out::Γ) h →
  CallE Tryz.prog fn_spec_l5Subs [o,v] h (fun u h'=>HS g (ow u (Fm.subs x out)::Γ) h'):=by
 refine Exq.ind fun x ih g h Γ v o out hs R H=>?_
 have R0:=R
 obtain⟨w,rfl,k1,k2,R1⟩:=Rep_Exq.1 R
 have hL:=R1.lt
 have hkl:=nods_len x.kids
 have hne:=x.nod_eq
 have hse:=Fm.subs_eq x out
 refine CallE.gen fun k hk=>EN_spec_l5Subs rfl ?_
 simp -implicitDefEqProofs (disch:=omega)[wrap64]
 refine wp_count x.kids.length (fun i e h'=>∃o:Value,e=[some o,none,some (.agg #[.int .i64 x.kind,.int .i64 x.val,w]),none,some (.int .i64 i)]∧HS g (ow o ((x.kids.take i).foldl (fun o x=>Fm.subs x o) out)::Γ) h') ⟨o,by simp,by simpa using H⟩ ?_
 clear H
 rintro J i _ h2 hJ hi ⟨o,rfl,H⟩
 simp -implicitDefEqProofs (disch:=first|omega|(simp only[LnZ];omega))[wrap64,R1.len]
 refine IteW.mk (fun hlt=>?_) (fun hge=>?_)
 ·have hlx:i<x.kids.length:=by omega
  have hnk:=Exq.nods_take hlx
  have hnl:=Exq.nods_le x.kids (i+1)
  have hfl:=Fm.subsL_len (x.kids.take i) (fun y _ o=>Fm.subs_len y o) out
  have hft:=foldl_tk (f:=fun o x=>Fm.subs x o) (b:=out) hlx
  generalize (x.kids.take i).foldl (fun o x=>Fm.subs x o) out=D at *
  obtain⟨u,hu,Ru⟩:=R1.ld hlx
  have hu2:=hload_le H.base hu
  change hload _ (some (elp 3 w i)) (some 3)=some u at hu2
  simp -implicitDefEqProofs (disch:=first|omega|(simp only[LnZ];omega))[wrap64,R1.X (n:=3) rfl,hu2]
  refine (ih _ (List.getElem_mem hlx) (by omega) Ru H).go ?_
  intro o' h3 H
  simp -implicitDefEqProofs (disch:=omega)[wrap64]
  exact hJ _ _ hlx ⟨o',by simp,by rw[hft];exact H⟩
 have hfl:=Fm.subsL_len x.kids (fun y _ o=>Fm.subs_len y o) out
 rw[List.take_of_length_le (by omega)] at H
 generalize x.kids.foldl (fun o x=>Fm.subs x o) out=D at *
 have FX:=R0.aExq
 simp -implicitDefEqProofs (disch:=first|omega|(simp only[LnZ];omega))[wrap64,FX]
 refine (c_l5Find H.rep (R0.on H)).go ?_
 rintro _ h3 ⟨rfl,rfl⟩
 rw[hse] at hk
 by_cases hm:x∈D
 ·have hf:¬Fm.fx D x<0:=fun e=>Fm.fx_neg.1 e hm
  simp -implicitDefEqProofs (disch:=first|omega|(simp only[LnZ];omega))[wrap64,hf]
  exact RetK.keep (hk _ _ (by rw[Fm.ins,if_pos hm];exact H))
 ·have hf:=Fm.fx_neg.2 hm
  simp -implicitDefEqProofs (disch:=first|omega|(simp only[LnZ];omega))[wrap64,hf,FX]
  refine (c_l5Copy x (by omega) (R0.on H)).go ?_
  intro y h4 G
  have H:=G.app H
  have FG:=G.rep.aExq
  obtain⟨y1,rfl,_,_,_⟩:=G.unExq
  simp -implicitDefEqProofs (disch:=first|omega|(simp only[LnZ];omega))[wrap64,FG,setC]
  refine HS.appO (bytes:=40) H rfl rfl rfl rfl rfl (by omega) (by omega) fun o' h5 H=>?_
  simp -implicitDefEqProofs (disch:=omega)[wrap64]
  exact RetK.keep (hk _ _ (by rw[Fm.ins,if_neg hm];exact H))
theorem c_l5True {h:Heap}:CallE Tryz.prog fn_spec_l5True [] h (fun u h'=>h'=h∧u=.agg #[.int .i64 1,.int .i64 0,.slice none 0 0]):=by
 refine CallE.gen fun k hk=>EN_spec_l5True rfl ?_
 simp -implicitDefEqProofs (disch:=first|omega|(simp only[LnZ];omega))[wrap64,setC]
 exact RetK.keep (hk _ _ ⟨rfl,rfl⟩)
theorem HS.leaf {g h:Heap}{Γ:List HP}(H:HS g Γ h) {k v:Int}(h1:I64 k) (h2:I64 v):HS g (ow (.agg #[.int .i64 k,.int .i64 v,.slice none 0 0]) (Exq.mk k v [])::Γ) h:=HS.mkExq' H.nil_ow h1 h2
theorem c_l5Not {g h:Heap}{Γ:List HP}{v:Value}{x:Exq}(H:HS g (ow v x::Γ) h):CallE Tryz.prog fn_spec_l5Not [v] h (fun u h'=>HS g (ow u (Fm.neg x)::Γ) h'):=by
 have FX:=H.rep.aExq
 obtain⟨w,rfl,k1,k2,H1⟩:=H.unExq
 refine CallE.gen fun k hk=>EN_spec_l5Not rfl ?_
 simp -implicitDefEqProofs (disch:=first|omega|(simp only[LnZ];omega))[wrap64,FX]
 refine HS.blsO1 H rfl fun xs h2 H=>?_
 simp -implicitDefEqProofs (disch:=first|omega|(simp only[LnZ];omega))[wrap64,setC,H.rep.cells,H.rep.one]
 exact RetK.keep (hk _ _ (HS.mkExq' (kd:=3) (vl:=0) H ⟨by decide,by decide⟩ ⟨by decide,by decide⟩))
theorem c_l5Dual {h:Heap}{kd:Int}:CallE Tryz.prog fn_spec_l5Dual [.int .i64 kd] h (fun u h'=>h'=h∧u=.int .i64 (Fm.dual kd)):=by
 refine CallE.gen fun k hk=>EN_spec_l5Dual rfl ?_
 by_cases c4:kd=4
 ·simp -implicitDefEqProofs (disch:=first|omega|(simp only[LnZ];omega))[wrap64,c4]
  exact RetK.keep (hk _ _ ⟨rfl,by simp[Fm.dual,c4]⟩)
 by_cases c5:kd=5
 ·simp -implicitDefEqProofs (disch:=first|omega|(simp only[LnZ];omega))[wrap64,c4,c5]
  exact RetK.keep (hk _ _ ⟨rfl,by simp[Fm.dual,c5]⟩)
 by_cases c7:kd=7
 ·simp -implicitDefEqProofs (disch:=first|omega|(simp only[LnZ];omega))[wrap64,c4,c5,c7]
  exact RetK.keep (hk _ _ ⟨rfl,by simp[Fm.dual,c7]⟩)
 simp -implicitDefEqProofs (disch:=first|omega|(simp only[LnZ];omega))[wrap64,c4,c5,c7]
 exact RetK.keep (hk _ _ ⟨rfl,by simp[Fm.dual,c4,c5,c7]⟩)
theorem i64c {k:Int}(h1:-9223372036854775808≤k:=by decide) (h2:k<9223372036854775808:=by decide):I64 k:=⟨h1,h2⟩
theorem Fm.dual_ok {k:Int}:I64 (Fm.dual k):=by
 unfold Fm.dual
 repeat' split
 all_goals exact⟨by decide,by decide⟩
theorem c_l5Push:∀(n:Nat) {x:Exq}{h:Heap}{v:Value}{ng:Bool},Fm.Shp n x→Rep h v x→CallE Tryz.prog fn_spec_l5Push [v,.bool ng] h (fun u h'=>HS h [ow u (Fm.push x ng)] h'):=by
 intro n
 induction n with
 | zero=>intro x h v ng hs;exact hs.elim
 | succ n ih=>
 intro x h v ng hs R
 have FX:=R.aExq
 obtain⟨w,rfl,k1,k2,R1⟩:=Rep_Exq.1 R
 have hpe:=Fm.push_eq x ng
 have hkd:=hs.1.kind
 refine CallE.gen fun k hk=>EN_spec_l5Push rfl ?_
 rw[hpe] at hk
 by_cases c12:x.kind=1∨x.kind=2
 ·rw[if_pos c12] at hk
  cases ng with
  | true=>
   have H0:=(HS.init (h:=h)).leaf k1 k2
   rcases c12 with c1 | c1
   all_goals
    rw[c1] at H0 hk
    simp -implicitDefEqProofs (disch:=first|omega|(simp only[LnZ];omega))[wrap64,c1,setC]
    refine (c_l5Not H0).go ?_
    intro u h1 H
    simp -implicitDefEqProofs (disch:=first|omega|(simp only[LnZ];omega))[wrap64,setC,H.rep.aExq]
    exact RetK.keep (hk _ _ H)
  | false=>
   have H0:=(HS.init (h:=h)).leaf k1 k2
   rcases c12 with c1 | c1
   all_goals
    rw[c1] at H0 hk
    simp -implicitDefEqProofs (disch:=first|omega|(simp only[LnZ];omega))[wrap64,c1,setC]
    exact RetK.keep (hk _ _ H0)
 rw[if_neg c12] at hk
 have n1:¬x.kind=1:=fun e=>c12 (.inl e)
 have n2:¬x.kind=2:=fun e=>c12 (.inr e)
 have hkl:0<x.kids.length:=by
  have h1:=hs.1.ar
  unfold Fm.arity at h1
  rw[if_neg c12] at h1
  split at h1
  ·omega
  ·split at h1<;>omega
 obtain⟨u0,hu0,Ru0⟩:=R1.ld hkl
 change hload _ (some (elp 3 w 0)) (some 3)=some u0 at hu0
 have hX:=R1.X (n:=3) rfl
 have hkp:=fun m=>Fm.kp_at (n:=m) hkl
 have hsk:=hs.kid hkl
 by_cases c3:x.kind=3
 ·rw[if_pos c3,hkp] at hk
  simp -implicitDefEqProofs (disch:=first|omega|(simp only[LnZ];omega))[wrap64,n1,n2,c3,hX,hu0]
  refine (ih hsk Ru0).go ?_
  intro u h1 H
  simp -implicitDefEqProofs (disch:=first|omega|(simp only[LnZ];omega))[wrap64,H.rep.aExq]
  exact RetK.keep (hk _ _ H)
 rw[if_neg c3] at hk
 by_cases c6:x.kind=6
 ·rw[if_pos c6,hkp] at hk
  simp -implicitDefEqProofs (disch:=first|omega|(simp only[LnZ];omega))[wrap64,n1,n2,c3,c6,hX,hu0]
  refine (ih hsk Ru0).go ?_
  intro u h1 H
  have FU:=H.rep.aExq
  obtain⟨w1,rfl,_,_,_⟩:=H.unExq
  simp -implicitDefEqProofs (disch:=first|omega|(simp only[LnZ];omega))[wrap64,FU]
  refine HS.blsO1 H rfl fun xs h2 H=>?_
  simp -implicitDefEqProofs (disch:=first|omega|(simp only[LnZ];omega))[wrap64,setC,H.rep.cells,H.rep.one]
  exact RetK.keep (hk _ _ (HS.mkExq' (kd:=6) (vl:=0) H i64c i64c))
 rw[if_neg c6] at hk
 by_cases c9:x.kind=9∨x.kind=10
 ·rw[if_pos c9,hkp] at hk
  have hx:∃b:Bool,decide (x.kind=9)=b∧((x.kind=9∧b=true)∨(¬x.kind=9∧x.kind=10∧b=false)):=by
   rcases c9 with c9 | c9
   ·exact⟨true,by simp[c9],.inl ⟨c9,rfl⟩⟩
   ·exact⟨false,by simp[c9],.inr ⟨by omega,c9,rfl⟩⟩
  obtain⟨b,hb,hbb⟩:=hx
  rw[hb] at hk
  rcases hbb with ⟨e9,rfl⟩ | ⟨e9,e10,rfl⟩
  all_goals
   first
    |simp -implicitDefEqProofs (disch:=first|omega|(simp only[LnZ];omega))[wrap64,n1,n2,c3,c6,e9,e10,hX,hu0]
    |simp -implicitDefEqProofs (disch:=first|omega|(simp only[LnZ];omega))[wrap64,n1,n2,c3,c6,e9,hX,hu0]
   refine (ih hsk Ru0).go ?_
   intro u h1 H
   have FU:=H.rep.aExq
   obtain⟨w1,rfl,_,_,HW⟩:=H.unExq
   have hO:=HW.rep.one
   cases ng
   all_goals
    simp -implicitDefEqProofs (disch:=first|omega|(simp only[LnZ];omega))[wrap64,e9,FU,setC,hO]
    refine c_l5True.go ?_
    rintro _ h1 ⟨rfl,rfl⟩
    have H0:HS h (ow _ Fm.tru::_) h1:=H.leaf (k:=1) (v:=0) i64c i64c
    simp -implicitDefEqProofs (disch:=first|omega|(simp only[LnZ];omega))[wrap64,FU,setC,hO]
    first
     |refine HS.blsO2 H0 rfl fun xs h2 H=>?_
      simp -implicitDefEqProofs (disch:=first|omega|(simp only[LnZ];omega))[wrap64,setC,H.rep.cells,H.rep.one]
      exact RetK.keep (hk _ _ (HS.mkExq' (kd:=7) (vl:=0) H i64c i64c))
     |refine (c_l5Not H0).go ?_
      intro u2 h2 H
      have FV:=H.rep.aExq
      obtain⟨w2,rfl,_,_,_⟩:=H.unExq
      simp -implicitDefEqProofs (disch:=first|omega|(simp only[LnZ];omega))[wrap64,FV,FU,hO]
      refine HS.blsO2 H rfl fun xs h3 H=>?_
      simp -implicitDefEqProofs (disch:=first|omega|(simp only[LnZ];omega))[wrap64,setC,H.rep.cells,H.rep.one]
      exact RetK.keep (hk _ _ (HS.mkExq' (kd:=8) (vl:=0) H i64c i64c))
 rw[if_neg c9] at hk
 have n9:¬x.kind=9:=fun e=>c9 (.inl e)
 have n10:¬x.kind=10:=fun e=>c9 (.inr e)
 have hkl2:1<x.kids.length:=by
  have:=hs.two (by omega)
  omega
 obtain⟨u1,hu1,Ru1⟩:=R1.ld hkl2
 change hload _ (some (elp 3 w 1)) (some 3)=some u1 at hu1
 have hkp2:=Fm.kp_at (n:=ng) hkl2
 have hsk2:=hs.kid hkl2
 rw[hkp,hkp2] at hk
 have fin:∀(kd:Int),I64 kd→(∀u h',HS h [ow u (Exq.mk kd 0 [Fm.push x.kids[0] ng,Fm.push x.kids[1] ng])] h'→k u h')→True:=fun _ _ _=>trivial
 cases ng with
 | true=>
  simp -implicitDefEqProofs (disch:=first|omega|(simp only[LnZ];omega))[wrap64,n1,n2,c3,c6,n9,n10]
  refine c_l5Dual.go ?_
  rintro _ _ ⟨rfl,rfl⟩
  simp -implicitDefEqProofs (disch:=first|omega|(simp only[LnZ];omega))[wrap64,hX,hu0,hu1]
  refine (ih hsk Ru0).go ?_
  intro u h1 H
  have FU:=H.rep.aExq
  obtain⟨w1,rfl,_,_,_⟩:=H.unExq
  have hu1':=hload_le H.base hu1
  simp -implicitDefEqProofs (disch:=first|omega|(simp only[LnZ];omega))[wrap64,hX,hu1',FU]
  refine (ih hsk2 (Ru1.on H)).go ?_
  intro u2 h2 G
  have H:=G.app H
  have FV:=G.rep.aExq
  obtain⟨w2,rfl,_,_,_⟩:=G.unExq
  simp -implicitDefEqProofs (disch:=first|omega|(simp only[LnZ];omega))[wrap64,FU,FV]
  refine HS.blsO2 H.sw1 rfl fun xs h2 H=>?_
  simp -implicitDefEqProofs (disch:=first|omega|(simp only[LnZ];omega))[wrap64,setC,H.rep.cells,H.rep.one]
  exact RetK.keep (hk _ _ (HS.mkExq' (vl:=0) H Fm.dual_ok i64c))
 | false=>
  simp -implicitDefEqProofs (disch:=first|omega|(simp only[LnZ];omega))[wrap64,n1,n2,c3,c6,n9,n10,hX,hu0,hu1]
  refine (ih hsk Ru0).go ?_
  intro u h1 H
  have FU:=H.rep.aExq
  obtain⟨w1,rfl,_,_,_⟩:=H.unExq
  have hu1':=hload_le H.base hu1
  simp -implicitDefEqProofs (disch:=first|omega|(simp only[LnZ];omega))[wrap64,hX,hu1',FU]
  refine (ih hsk2 (Ru1.on H)).go ?_
  intro u2 h2 G
  have H:=G.app H
  have FV:=G.rep.aExq
  obtain⟨w2,rfl,_,_,_⟩:=G.unExq
  simp -implicitDefEqProofs (disch:=first|omega|(simp only[LnZ];omega))[wrap64,FU,FV]
  refine HS.blsO2 H.sw1 rfl fun xs h2 H=>?_
  simp -implicitDefEqProofs (disch:=first|omega|(simp only[LnZ];omega))[wrap64,setC,H.rep.cells,H.rep.one]
  exact RetK.keep (hk _ _ (HS.mkExq' (vl:=0) H k1 i64c))
structure Tr where
 frm:Int
 care:Int
 value:Int
 to:Int
deriving DecidableEq
instance instTyTr:Ty Tr:=Ty.via fun (t:Tr)=>(t.frm,t.care,t.value,t.to)
theorem Tr.ext_iff' {a b:Tr}:a=b↔a.frm=b.frm∧a.care=b.care∧a.value=b.value∧a.to=b.to:=by
 cases a;cases b;simp
instance instFlatTr:Flat Tr:=Flat.via fun (t:Tr)=>(t.frm,t.care,t.value,t.to)
def Tr.v (t:Tr):Value:=.agg #[.int .i64 t.frm,.int .i64 t.care,.int .i64 t.value,.int .i64 t.to]
structure Tr.ok (t:Tr):Prop where
 frm:-9223372036854775808≤t.frm∧t.frm<9223372036854775808
 care:-9223372036854775808≤t.care∧t.care<9223372036854775808
 value:-9223372036854775808≤t.value∧t.value<9223372036854775808
 to:-9223372036854775808≤t.to∧t.to<9223372036854775808
theorem Tr.ok_iff {t:Tr}:Flat.ok t↔t.ok:=⟨fun h=>⟨h.1,h.2.1,h.2.2.1,h.2.2.2⟩,fun h=>⟨h.frm,h.care,h.value,h.to⟩⟩
theorem Rep_Tr {h:Heap}{v:Value}{t:Tr}:Rep h v t↔v=t.v∧t.ok:=by rw[Rep_flat,Tr.ok_iff];rfl
theorem Rep.ldTr {h:Heap}{v:Value}{l:List Tr}(hr:Rep h v l) {i:Nat}(hi:i<l.length):hload h (some (elp 4 v i)) (some 4)=some l[i].v:=hr.ldF hi
theorem Rep.okTr {h:Heap}{v:Value}{l:List Tr}(hr:Rep h v l) {i:Nat}(hi:i<l.length):l[i].ok:=Tr.ok_iff.1 (hr.okF hi)
theorem Rep.xTr {h:Heap}{v:Value}{l:List Tr}(hr:Rep h v l):((∀(kd:IntKind) (i:Nat),i<l.length→iaV 4 v (.int kd i)=some (elp 4 v i))∧(∀(kd:IntKind) (i:Int),0≤i→i<l.length→iaV 4 v (.int kd i)=some (elp 4 v i.toNat))∧lenVV v=some (.int .i64 l.length)) ∧
  ∀(i:Nat) (hi:i<l.length),hload h (some (elp 4 v i)) (some 4)=some l[i].v:=⟨hr.X rfl,fun _ hi=>hr.ldTr hi⟩
theorem Rep.fTr {h:Heap}{v:Value}{l:List Tr}(hr:Rep h v l):(∀(i fo:Nat),i<l.length→faV fo (elp 4 v i)=some (elpo 4 v i fo))∧(∀(i:Nat) (hi:i<l.length),hload h (some (elpo 4 v i 0)) none=some (.int .i64 l[i].frm))∧(∀(i:Nat) (hi:i<l.length),hload h (some (elpo 4 v i 1)) none=some (.int .i64 l[i].care))∧(∀(i:Nat) (hi:i<l.length),hload h (some (elpo 4 v i 2)) none=some (.int .i64 l[i].value))∧(∀(i:Nat) (hi:i<l.length),hload h (some (elpo 4 v i 3)) none=some (.int .i64 l[i].to)):=⟨fun _ _ hi=>hr.fa hi,fun _ hi=>hr.fld hi rfl rfl,fun _ hi=>hr.fld hi rfl rfl,fun _ hi=>hr.fld hi rfl rfl,fun _ hi=>hr.fld hi rfl rfl⟩
instance instSzTr:Sz Tr:=⟨fun a=>Sz.sz a.frm+Sz.sz a.care+Sz.sz a.value+Sz.sz a.to⟩
instance instMkTr:Mk Tr:=⟨fun a=>Mk.cnt a.frm+Mk.cnt a.care+Mk.cnt a.value+Mk.cnt a.to,
 fun k a=>⟨Mk.wr (k) a.frm,Mk.wr (k+Mk.cnt a.frm) a.care,Mk.wr (k+Mk.cnt a.frm+Mk.cnt a.care) a.value,Mk.wr (k+Mk.cnt a.frm+Mk.cnt a.care+Mk.cnt a.value) a.to⟩,
 fun k a=>by simp[Mk.cnt_wr],fun k j a=>by simp[Mk.cnt_wr,Mk.wr_wr]⟩
structure Aut where
 init:List Int
 acc:List Bool
 edges:List Tr
deriving DecidableEq
instance instTyAut:Ty Aut:=Ty.via fun (a:Aut)=>(a.init,a.acc,a.edges)
theorem Aut.ext_iff' {a b:Aut}:a=b↔a.init=b.init∧a.acc=b.acc∧a.edges=b.edges:=by
 cases a;cases b;simp
theorem Rep_Aut {h:Heap}{v:Value}{a:Aut}:Rep h v a↔∃v1 v2 v3,v=.agg #[v1,v2,v3]∧Rep h v1 a.init∧Rep h v2 a.acc∧Rep h v3 a.edges:=by
 constructor
 ·rintro⟨cs,rfl,c0,d0,rfl,h1,c1,d1,rfl,h2,h3⟩
  obtain⟨v1,rfl,g1⟩:=(rep1 rfl).1 h1
  obtain⟨v2,rfl,g2⟩:=(rep1 rfl).1 h2
  obtain⟨v3,rfl,g3⟩:=(rep1 rfl).1 h3
  exact⟨v1,v2,v3,rfl,g1,g2,g3⟩
 ·rintro⟨v1,v2,v3,rfl,h1,h2,h3⟩
  exact⟨[v1,v2,v3],rfl,⟨[v1],[v2,v3],rfl,(rep1 rfl).2 ⟨_,rfl,h1⟩,⟨[v2],[v3],rfl,(rep1 rfl).2 ⟨_,rfl,h2⟩,(rep1 rfl).2 ⟨_,rfl,h3⟩⟩⟩⟩
theorem HS.unAut {g h:Heap}{Γ:List HP}{v:Value}{a:Aut}(H:HS g (ow v a::Γ) h):∃v1 v2 v3,v=.agg #[v1,v2,v3]∧HS g (ow v1 a.init::ow v2 a.acc::ow v3 a.edges::Γ) h:=by
 obtain⟨cs,rfl,H0⟩:=HS.unvia (fun (a:Aut)=>(a.init,a.acc,a.edges)) H
 try dsimp only at H0
 obtain⟨c0,e0,rfl,H1a⟩:=HS.unprod H0
 obtain⟨v1,rfl,H1b⟩:=HS.unone rfl H1a
 have H1:=H1b.sw1
 obtain⟨c1,e1,rfl,H2a⟩:=HS.unprod H1
 obtain⟨v2,rfl,H2b⟩:=HS.unone rfl H2a
 have H2:=H2b.sw1
 obtain⟨v3,rfl,HL⟩:=HS.unone rfl H2
 exact⟨v1,v2,v3,rfl,HL.sw1.sw2⟩
theorem HS.mkAut {g h:Heap}{Γ:List HP}{v1 v2 v3:Value}{a:Aut}(H:HS g (ow v1 a.init::ow v2 a.acc::ow v3 a.edges::Γ) h):HS g (ow (.agg #[v1,v2,v3]) a::Γ) h:=by
 refine HS.via (fun (a:Aut)=>(a.init,a.acc,a.edges)) ?_
 exact HS.prod rfl (H.under fun _ H=>HS.prod rfl (H.under fun _ H=>HS.one rfl H))
theorem Rep.aAut {h:Heap}{v:Value}{x:Aut}(hr:Rep h v x):pgetV (some v) 0 (some 3)=some v∧v.cells.size=3∧allOne v.cells.toList=true∧Value.agg v.cells=v:=hr.A rfl rfl
instance instSzAut:Sz Aut:=⟨fun a=>Sz.sz a.init+Sz.sz a.acc+Sz.sz a.edges⟩
instance instMkAut:Mk Aut:=⟨fun a=>Mk.cnt a.init+Mk.cnt a.acc+Mk.cnt a.edges,
 fun k a=>⟨Mk.wr (k) a.init,Mk.wr (k+Mk.cnt a.init) a.acc,Mk.wr (k+Mk.cnt a.init+Mk.cnt a.acc) a.edges⟩,
 fun k a=>by simp[Mk.cnt_wr],fun k j a=>by simp[Mk.cnt_wr,Mk.wr_wr]⟩
structure Las where
 stem:List Int
 loop:List Int
deriving DecidableEq
instance instTyLas:Ty Las:=Ty.via fun (l:Las)=>(l.stem,l.loop)
theorem Las.ext_iff' {a b:Las}:a=b↔a.stem=b.stem∧a.loop=b.loop:=by
 cases a;cases b;simp
theorem Rep_Las {h:Heap}{v:Value}{a:Las}:Rep h v a↔∃v1 v2,v=.agg #[v1,v2]∧Rep h v1 a.stem∧Rep h v2 a.loop:=by
 constructor
 ·rintro⟨cs,rfl,c0,d0,rfl,h1,h2⟩
  obtain⟨v1,rfl,g1⟩:=(rep1 rfl).1 h1
  obtain⟨v2,rfl,g2⟩:=(rep1 rfl).1 h2
  exact⟨v1,v2,rfl,g1,g2⟩
 ·rintro⟨v1,v2,rfl,h1,h2⟩
  exact⟨[v1,v2],rfl,⟨[v1],[v2],rfl,(rep1 rfl).2 ⟨_,rfl,h1⟩,(rep1 rfl).2 ⟨_,rfl,h2⟩⟩⟩
theorem HS.mkLas {g h:Heap}{Γ:List HP}{v1 v2:Value}{a:Las}(H:HS g (ow v1 a.stem::ow v2 a.loop::Γ) h):HS g (ow (.agg #[v1,v2]) a::Γ) h:=by
 refine HS.via (fun (l:Las)=>(l.stem,l.loop)) ?_
 exact HS.prod rfl (H.under fun _ H=>HS.one rfl H)
theorem Rep.aLas {h:Heap}{v:Value}{x:Las}(hr:Rep h v x):pgetV (some v) 0 (some 2)=some v∧v.cells.size=2∧allOne v.cells.toList=true∧Value.agg v.cells=v:=hr.A rfl rfl
instance instSzLas:Sz Las:=⟨fun a=>Sz.sz a.stem+Sz.sz a.loop⟩
instance instMkLas:Mk Las:=⟨fun a=>Mk.cnt a.stem+Mk.cnt a.loop,
 fun k a=>⟨Mk.wr (k) a.stem,Mk.wr (k+Mk.cnt a.stem) a.loop⟩,
 fun k a=>by simp[Mk.cnt_wr],fun k j a=>by simp[Mk.cnt_wr,Mk.wr_wr]⟩
namespace Fm
def has (s:Nat) (i:Int):Bool:=decide (0≤i)&&s.testBit i.toNat
theorem has_nat {s i:Nat}:has s (i:Int)=s.testBit i:=by simp[has]
mutual
noncomputable def val (B:List Exq) (s:Nat):Exq→Bool
 | .mk k v l=>if k=1 then true else if k=3 then !(vals B s l).getD 0 false else if k=4 then (vals B s l).getD 0 false&&(vals B s l).getD 1 false
  else if k=5 then (vals B s l).getD 0 false||(vals B s l).getD 1 false else has s (fx B (.mk k v l))
noncomputable def vals (B:List Exq) (s:Nat):List Exq→List Bool
 | []=>[]
 | x::l=>val B s x::vals B s l
end
theorem vals_eq {B:List Exq}{s:Nat}:∀l,vals B s l=l.map (val B s)
 | []=>rfl
 | x::l=>by simp only[vals,List.map_cons,vals_eq l]
noncomputable def kv (B:List Exq) (s:Nat) (x:Exq) (j:Nat):Bool:=(x.kids.map (val B s)).getD j false
theorem kv_at {B:List Exq}{s:Nat}{x:Exq}{j:Nat}(hj:j<x.kids.length):kv B s x j=val B s x.kids[j]:=by simp[kv,hj]
theorem val_eq {B:List Exq}{s:Nat}(x:Exq):val B s x=if x.kind=1 then true else if x.kind=3 then !kv B s x 0 else if x.kind=4 then kv B s x 0&&kv B s x 1
  else if x.kind=5 then kv B s x 0||kv B s x 1 else has s (fx B x):=by
 cases x with
 | mk k v l=>simp only[val,vals_eq];rfl
noncomputable def got (B:List Exq) (s t i:Nat) (f:Exq):Bool:=
 if f.kind=6 then kv B t f 0 else if f.kind=7 then kv B s f 1||kv B s f 0&&t.testBit i else if f.kind=8 then kv B s f 1&&(kv B s f 0||t.testBit i) else s.testBit i
def Fol (B:List Exq) (s t:Nat):Prop:=∀(i:Nat) (hi:i<B.length),got B s t i B[i]=s.testBit i
noncomputable instance {B:List Exq}{s t:Nat}:Decidable (Fol B s t):=Classical.propDecidable _
noncomputable def ful (B:List Exq) (s:Nat) (u:Int):Bool:=!has s u||kv B s (B.getD u.toNat Exq.zero) 1
def ltc (B:List Exq):Nat→Nat
 | 0=>0
 | n+1=>if (B.getD n Exq.zero).kind=2 then ltc B n|||1<<<(B.getD n Exq.zero).val.toNat else ltc B n
def ltv (B:List Exq) (s:Nat):Nat→Nat
 | 0=>0
 | n+1=>if (B.getD n Exq.zero).kind=2∧s.testBit n=true then ltv B s n|||1<<<(B.getD n Exq.zero).val.toNat else ltv B s n
theorem or8 {a b:Nat}(ha:a<8) (hb:b<8):a|||b<8:=Nat.or_lt_two_pow (n:=3) ha hb
theorem sh3 {k:Nat}(hk:k<3):1<<<k<8:=by
 obtain rfl | rfl | rfl:k=0∨k=1∨k=2:=by omega
 all_goals decide
theorem ltc_lt {B:List Exq}(h:∀y∈B,Shp 6 y):∀n,n≤B.length→ltc B n<8
 | 0,_=>by simp[ltc]
 | n+1,hn=>by
  have ih:=ltc_lt h n (by omega)
  have hm:=(h _ (List.getElem_mem (show n<B.length by omega))).nd
  have e:B.getD n Exq.zero=B[n]:=by simp[show n<B.length by omega]
  rw[ltc,e]
  split
  ·exact or8 ih (sh3 (by have:=hm.hi;have:=hm.lo;omega))
  ·exact ih
theorem ltv_lt {B:List Exq}{s:Nat}(h:∀y∈B,Shp 6 y):∀n,n≤B.length→ltv B s n<8
 | 0,_=>by simp[ltv]
 | n+1,hn=>by
  have ih:=ltv_lt (s:=s) h n (by omega)
  have hm:=(h _ (List.getElem_mem (show n<B.length by omega))).nd
  have e:B.getD n Exq.zero=B[n]:=by simp[show n<B.length by omega]
  rw[ltv,e]
  split
  ·exact or8 ih (sh3 (by have:=hm.hi;have:=hm.lo;omega))
  ·exact ih
def unt (B:List Exq):Nat→List Int
 | 0=>[]
 | n+1=>if (B.getD n Exq.zero).kind=7 then unt B n++[(n:Int)] else unt B n
theorem unt_mem {B:List Exq}:∀{n:Nat}{u:Int},u∈unt B n→∃m:Nat,u=m∧m<n∧(B.getD m Exq.zero).kind=7
 | 0,_,h=>by simp[unt] at h
 | n+1,u,h=>by
  rw[unt] at h
  split at h
  ·rename_i hk
   rcases List.mem_append.1 h with h | h
   ·obtain⟨m,h1,h2,h3⟩:=unt_mem h
    exact⟨m,h1,by omega,h3⟩
   ·simp at h;exact⟨n,h,by omega,hk⟩
  ·obtain⟨m,h1,h2,h3⟩:=unt_mem h
   exact⟨m,h1,by omega,h3⟩
theorem unt_len {B:List Exq}:∀n,(unt B n).length≤n
 | 0=>by simp[unt]
 | n+1=>by
  have:=unt_len (B:=B) n
  rw[unt]
  split
  ·simp;omega
  ·omega
noncomputable def phs (B:List Exq) (U:List Int) (s:Nat) (p:Int):Int×Bool:=
 if U.length=0 then (0,true) else if ful B s (U.getD p.toNat 0) then ((p+1).tmod U.length,decide (p=0)) else (p,false)
def POk (U:List Int) (p:Int):Prop:=0≤p∧(p<U.length∨p=0)
theorem phs_ok {B:List Exq}{U:List Int}{s:Nat}{p:Int}(h:POk U p):POk U (phs B U s p).1:=by
 unfold phs
 by_cases h1:U.length=0
 ·rw[if_pos h1];exact⟨by simp,.inr rfl⟩
 ·have hU:(0:Int)<U.length:=by omega
  have h2:(0:Int)≤p+1:=by have:=h.1;omega
  have h3:0≤(p+1).tmod U.length∧(p+1).tmod U.length<U.length:=by
   rw[Int.tmod_eq_emod_of_nonneg h2]
   exact⟨Int.emod_nonneg _ (by omega),Int.emod_lt_of_pos _ hU⟩
  rw[if_neg h1]
  split
  ·exact⟨h3.1,.inl h3.2⟩
  ·exact h
def atL (L:List (List Int)) (p:List Int):Int:=match L.findIdx? (fun y=>decide (y=p)) with | some i=>(i:Int) | .none=>(L.length:Int)
def adL (L:List (List Int)) (p:List Int):List (List Int):=if p∈L then L else L++[p]
theorem atL_at {xs:List (List Int)}{st:List Int}{i:Nat}(hi:i<xs.length) (he:xs[i]=st) (hn:∀(j:Nat) (hj:j<xs.length),j<i→xs[j]≠st):atL xs st=i:=by
 have:xs.findIdx? (fun y=>decide (y=st))=some i:=by
  rw[List.findIdx?_eq_some_iff_getElem]
  exact⟨hi,by simpa using he,fun j hj=>by simpa using hn j (by omega) hj⟩
 rw[atL,this]
theorem atL_not {xs:List (List Int)}{st:List Int}(h:st∉xs):atL xs st=xs.length:=by
 have:xs.findIdx? (fun y=>decide (y=st))=.none:=by
  rw[List.findIdx?_eq_none_iff]
  intro y hy
  simp only[decide_eq_false_iff_not]
  rintro rfl
  exact h hy
 rw[atL,this]
theorem adL_len {L:List (List Int)}{p:List Int}:L.length≤(adL L p).length∧(adL L p).length≤L.length+1:=by
 unfold adL;split<;>simp
theorem atL_lt {L:List (List Int)}{p:List Int}:0≤atL L p∧atL L p<(adL L p).length:=by
 by_cases h:p∈L
 ·rw[adL,if_pos h]
  unfold atL
  split
  ·rename_i i hi
   rw[List.findIdx?_eq_some_iff_getElem] at hi
   obtain⟨h1,_⟩:=hi
   omega
  ·rename_i hn
   rw[List.findIdx?_eq_none_iff] at hn
   have:=hn p h
   simp at this
 ·rw[atL_not h,adL,if_neg h]
  simp
  omega
noncomputable def trow (B:List Exq) (i:Nat) (s:Nat) (p:Int):Nat→List (List Int)×List Tr→List (List Int)×List Tr
 | 0,q=>q
 | n+1,q=>let r:=trow B i s p n q
  if Fol B s n then (adL r.1 [(n:Int),p],r.2++[⟨(i:Int),(ltc B B.length:Nat),(ltv B s B.length:Nat),atL r.1 [(n:Int),p]⟩]) else r
noncomputable def tN (B:List Exq) (U:List Int) (L0:List (List Int)):Nat→List (List Int)×List Bool×List Tr
 | 0=>(L0,[],[])
 | n+1=>let r:=tN B U L0 n
  if n<r.1.length∧r.1.length≤64 then
   let s:=((r.1.getD n []).getD 0 0).toNat
   let ph:=phs B U s ((r.1.getD n []).getD 1 0)
   let q:=trow B n s ph.1 (2^B.length) (r.1,r.2.2)
   (q.1,r.2.1++[ph.2],q.2)
  else r
def LOk2 (c:Nat) (U:List Int) (L:List (List Int)):Prop:=∀x∈L,∃(s:Nat) (p:Int),x=[(s:Int),p]∧s<c∧POk U p
theorem LOk2.add {c:Nat}{U:List Int}{L:List (List Int)}(h:LOk2 c U L) {s:Nat}{p:Int}(hs:s<c) (hp:POk U p):LOk2 c U (adL L [(s:Int),p]):=by
 unfold adL
 split
 ·exact h
 ·intro x hx
  rcases List.mem_append.1 hx with hx | hx
  ·exact h x hx
  ·simp at hx;exact⟨s,p,hx,hs,hp⟩
structure TRow (B:List Exq) (U:List Int) (c i n:Nat) (q r:List (List Int)×List Tr):Prop where
 ok:LOk2 c U r.1
 ge:q.1.length≤r.1.length
 le:r.1.length≤q.1.length+n
 el:r.2.length≤q.2.length+n
 pre:∃t,r.1=q.1++t
 ed:∀e∈r.2,e∈q.2∨(e.frm=i∧0≤e.to∧e.to<r.1.length∧e.care=(ltc B B.length:Nat)∧∃s:Nat,e.value=(ltv B s B.length:Nat))
theorem adL_pre {L:List (List Int)}{p:List Int}:∃t,adL L p=L++t:=by
 unfold adL;split
 ·exact⟨[],by simp⟩
 ·exact⟨_,rfl⟩
theorem trow_inv {B:List Exq}{U:List Int}{c i s:Nat}{p:Int}{q:List (List Int)×List Tr}(hq:LOk2 c U q.1) (hp:POk U p):∀n,n≤c→TRow B U c i n q (trow B i s p n q)
 | 0,_=>⟨hq,Nat.le_refl _,by simp[trow],by simp[trow],⟨[],by simp[trow]⟩,fun e he=>.inl he⟩
 | n+1,hn=>by
  have ih:=trow_inv (s:=s) (i:=i) (B:=B) hq hp n (by omega)
  unfold trow
  simp only
  split
  ·have hl:=adL_len (L:=(trow B i s p n q).1) (p:=[(n:Int),p])
   have h1:=ih.ge
   have h2:=ih.le
   have h3:=ih.el
   have ha:=atL_lt (L:=(trow B i s p n q).1) (p:=[(n:Int),p])
   obtain⟨t,ht⟩:=ih.pre
   obtain⟨t',ht'⟩:=adL_pre (L:=(trow B i s p n q).1) (p:=[(n:Int),p])
   refine⟨ih.ok.add (by omega) hp,by simp only;omega,by simp only;omega,by simp only[List.length_append,List.length_singleton];omega,⟨t++t',by simp only;rw[ht',ht,List.append_assoc]⟩,fun e he=>?_⟩
   simp only at he
   rcases List.mem_append.1 he with he | he
   ·rcases ih.ed e he with h | ⟨e1,e2,e3,e4,e5⟩
    ·exact .inl h
    ·exact .inr ⟨e1,e2,by simp only;omega,e4,e5⟩
   ·rw[List.mem_singleton] at he
    subst he
    exact .inr ⟨rfl,ha.1,ha.2,rfl,s,rfl⟩
  ·exact⟨ih.ok,ih.ge,by have:=ih.le;omega,by have:=ih.el;omega,ih.pre,ih.ed⟩
structure TInv (B:List Exq) (U:List Int) (n:Nat) (r:List (List Int)×List Bool×List Tr):Prop where
 ok:LOk2 (2^B.length) U r.1
 al:r.2.1.length≤n∧r.2.1.length≤r.1.length
 el:r.2.2.length≤n*2^B.length
 ll:r.1.length≤64+2^B.length
 ed:∀e∈r.2.2,0≤e.frm∧e.frm<r.1.length∧0≤e.to∧e.to<r.1.length∧e.care=(ltc B B.length:Nat)∧∃s:Nat,e.value=(ltv B s B.length:Nat)
theorem tN_inv {B:List Exq}{U:List Int}{L0:List (List Int)}(h0:LOk2 (2^B.length) U L0) (hl:L0.length≤2^B.length):∀n,TInv B U n (tN B U L0 n)
 | 0=>⟨h0,by simp[tN],by simp[tN],by simp only[tN];omega,fun e he=>by simp[tN] at he⟩
 | n+1=>by
  have ih:=tN_inv h0 hl n
  unfold tN
  simp only
  split
  ·rename_i hc
   obtain⟨h1,h2⟩:=hc
   obtain⟨s,p,e,hs,hp⟩:=ih.ok _ (List.getElem_mem h1)
   have eg:(tN B U L0 n).1.getD n []=[(s:Int),p]:=by rw[List.getD_eq_getElem?_getD,List.getElem?_eq_getElem h1,← e];rfl
   have I:=trow_inv (B:=B) (s:=s) (i:=n) (p:=(phs B U s p).1) (q:=((tN B U L0 n).1,(tN B U L0 n).2.2)) ih.ok (phs_ok (B:=B) (s:=s) hp) (2^B.length) (Nat.le_refl _)
   simp only[eg,List.getD_cons_zero,List.getD_cons_succ,Int.toNat_natCast]
   have i1:=I.ge
   have i2:=I.le
   have i3:=I.el
   have i4:=ih.al
   have i5:=ih.el
   simp only at i1 i2 i3
   refine⟨I.ok,by simp only[List.length_append,List.length_singleton];omega,by simp only[Nat.add_mul];omega,by simp only;omega,fun e he=>?_⟩
   rcases I.ed e he with h | ⟨e1,e2,e3,e4,e5⟩
   ·obtain⟨f1,f2,f3,f4,f5⟩:=ih.ed e h
    exact⟨f1,by simp only;omega,f3,by simp only;omega,f5⟩
   ·exact⟨by omega,by simp only;omega,e2,e3,e4,e5⟩
  ·have i4:=ih.al
   have i5:=ih.el
   exact⟨ih.ok,by omega,by rw[Nat.add_mul];omega,ih.ll,ih.ed⟩
theorem tN_al {B:List Exq}{U:List Int}{L0:List (List Int)}:∀n,(∀m,m<n→m<(tN B U L0 m).1.length∧(tN B U L0 m).1.length≤64)→(tN B U L0 n).2.1.length=n
 | 0,_=>rfl
 | n+1,h=>by
  have ih:=tN_al (B:=B) (U:=U) (L0:=L0) n (fun m hm=>h m (by omega))
  unfold tN
  simp only
  rw[if_pos (h n (by omega))]
  simp[ih]
theorem tN_stop {B:List Exq}{U:List Int}{L0:List (List Int)}{n:Nat}(h:¬(n<(tN B U L0 n).1.length∧(tN B U L0 n).1.length≤64)):∀m,n≤m→tN B U L0 m=tN B U L0 n
 | m,hm=>by
  induction m with
  | zero=>obtain rfl:n=0:=by omega
          rfl
  | succ m ih=>
   by_cases e:n=m+1
   ·rw[e]
   ·have h1:=ih (by omega)
    rw[tN]
    simp only
    rw[h1,if_neg (by omega)]
theorem tN_big {B:List Exq}{U:List Int}{L0:List (List Int)}{n:Nat}(h:64<(tN B U L0 n).1.length):∀m,n≤m→64<(tN B U L0 m).1.length:=fun m hm=>by
 rw[tN_stop (by omega) m hm];exact h
theorem tN_succ {B:List Exq}{U:List Int}{L0:List (List Int)}{n:Nat}(h1:n<(tN B U L0 n).1.length) (h2:(tN B U L0 n).1.length≤64) {s:Nat}{p:Int}(e:(tN B U L0 n).1[n]=[(s:Int),p]) :
  tN B U L0 (n+1)=((trow B n s (phs B U s p).1 (2^B.length) ((tN B U L0 n).1,(tN B U L0 n).2.2)).1,(tN B U L0 n).2.1++[(phs B U s p).2],(trow B n s (phs B U s p).1 (2^B.length) ((tN B U L0 n).1,(tN B U L0 n).2.2)).2):=by
 have eg:(tN B U L0 n).1.getD n []=[(s:Int),p]:=by rw[List.getD_eq_getElem?_getD,List.getElem?_eq_getElem h1,← e];rfl
 rw[tN]
 simp only
 rw[if_pos ⟨h1,h2⟩]
 simp only[eg,List.getD_cons_zero,List.getD_cons_succ,Int.toNat_natCast]
noncomputable def ini0 (B:List Exq) (g:Exq):Nat→List (List Int)
 | 0=>[]
 | n+1=>if val B n g then ini0 B g n++[[(n:Int),0]] else ini0 B g n
theorem ini0_len {B:List Exq}{g:Exq}:∀n,(ini0 B g n).length≤n
 | 0=>by simp[ini0]
 | n+1=>by
  have:=ini0_len (B:=B) (g:=g) n
  rw[ini0]
  split
  ·simp;omega
  ·omega
theorem ini0_ok {B:List Exq}{g:Exq}{U:List Int}:∀{n c:Nat},n≤c→LOk2 c U (ini0 B g n)
 | 0,_,_=>fun x hx=>by simp[ini0] at hx
 | n+1,c,h=>by
  have ih:=ini0_ok (B:=B) (g:=g) (U:=U) (n:=n) (c:=c) (by omega)
  rw[ini0]
  split
  ·intro x hx
   rcases List.mem_append.1 hx with hx | hx
   ·exact ih x hx
   ·simp at hx;exact⟨n,0,hx,by omega,by simp[POk]⟩
  ·exact ih
def upto (n:Nat):List Int:=(List.range n).map fun (i:Nat)=>(i:Int)
theorem upto_succ {n:Nat}:upto (n+1)=upto n++[(n:Int)]:=by simp[upto,List.range_succ]
noncomputable def trT (x:Exq):List (List Int)×List Bool×List Tr:=tN (basics x) (unt (basics x) (basics x).length) (ini0 (basics x) (push x false) (2^(basics x).length)) 64
def trOk (x:Exq):Prop:=bOk x∧(trT x).1.length≤64
noncomputable instance {x:Exq}:Decidable (trOk x):=Classical.propDecidable _
noncomputable def trA (x:Exq):Aut:=⟨upto (ini0 (basics x) (push x false) (2^(basics x).length)).length,if (trT x).1=[] then [false] else (trT x).2.1,(trT x).2.2⟩
noncomputable def trR (x:Exq):Aut:=if trOk x then trA x else ⟨[],[],[]⟩
end Fm
theorem u64_any {i:Int}:IntKind.u64.wrap i=i%18446744073709551616:=by simp[IntKind.wrap,IntKind.signed,IntKind.bits]
theorem u64_nn {i:Int}:¬IntKind.u64.wrap i<0:=by rw[u64_any];omega
theorem u64_pos {i:Int}(h0:0≤i) (h1:i<9223372036854775808):IntKind.u64.wrap i=i:=by rw[u64_any];omega
theorem bv_nat {m:Nat}(hm:m<9223372036854775808):(BitVec.ofInt 64 (m:Int)).toNat=m:=by
 rw[BitVec.toNat_ofInt]
 have:(m:Int)%(2^64:Nat)=m:=Int.emod_eq_of_lt (by omega) (by omega)
 rw[this]
 rfl
theorem i64_and {a b:Nat}(ha:a<9223372036854775808) (hb:b<9223372036854775808):andI .i64 (a:Int) (b:Int)=((a&&&b:Nat):Int):=by
 unfold andI
 rw[show IntKind.i64.bits=64 from rfl,BitVec.toNat_and,bv_nat ha,bv_nat hb]
 have:a&&&b≤a:=Nat.and_le_left
 exact wrap64 (by omega) (by omega)
theorem i64_or {a b:Nat}(ha:a<4611686018427387904) (hb:b<4611686018427387904):orI .i64 (a:Int) (b:Int)=((a|||b:Nat):Int):=by
 unfold orI
 rw[show IntKind.i64.bits=64 from rfl,BitVec.toNat_or,bv_nat (by omega),bv_nat (by omega)]
 have:a|||b<2^62:=Nat.or_lt_two_pow (by omega) (by omega)
 exact wrap64 (by omega) (by omega)
theorem i64_shl1 {j:Nat}(hj:j<60):shlI .i64 1 (j:Int)=((1<<<j:Nat):Int):=by
 unfold shlI
 rw[show IntKind.i64.bits=64 from rfl,Int.toNat_natCast,Nat.min_eq_left (by omega),Nat.shiftLeft_eq]
 have h1:(2:Nat)^j<2^60:=Nat.pow_lt_pow_right (by omega) hj
 have h2:((2:Int)^j)=((2^j:Nat):Int):=by push_cast;rfl
 rw[h2]
 generalize 2^j=q at *
 rw[wrap64 (by omega) (by omega)]
 simp
theorem i64_shr {s j:Nat}:shrI .i64 (s:Int) (j:Int)=((s / 2^(min j 64):Nat):Int):=by
 unfold shrI
 rw[show IntKind.i64.bits=64 from rfl,Int.toNat_natCast,Int.fdiv_eq_ediv_of_nonneg _ (by exact Int.le_of_lt (Int.pow_pos (by omega)))]
 push_cast
 rfl
theorem has_eq {s:Nat}{i:Int}(hs:s<4611686018427387904) (hi:I64 i):(andI .i64 (shrI .i64 (s:Int) (IntKind.u64.wrap i)) 1=1)↔Fm.has s i=true:=by
 have key:∀j:Nat,(andI .i64 (shrI .i64 (s:Int) (j:Int)) 1=1)↔s / 2^(min j 64)%2=1:=fun j=>by
  rw[i64_shr]
  have h1:s / 2^(min j 64)≤s:=Nat.div_le_self _ _
  rw[show (1:Int)=((1:Nat):Int) from rfl,i64_and (by omega) (by omega),Nat.and_one_is_mod]
  omega
 by_cases h0:0≤i
 ·obtain⟨n,rfl⟩:∃n:Nat,i=n:=⟨i.toNat,(Int.toNat_of_nonneg h0).symm⟩
  rw[u64_pos h0 hi.2,key,Fm.has_nat,Nat.testBit_eq_decide_div_mod_eq,decide_eq_true_eq]
  by_cases h1:n≤64
  ·rw[Nat.min_eq_left h1]
  ·rw[Nat.min_eq_right (by omega)]
   have e1:s / 2^64=0:=Nat.div_eq_of_lt (by omega)
   have e2:s / 2^n=0:=Nat.div_eq_of_lt (Nat.lt_of_lt_of_le (by omega:s<2^64) (Nat.pow_le_pow_right (by omega) (by omega)))
   rw[e1,e2]
 ·have h2:=hi.1
  obtain⟨n,hn⟩:∃n:Nat,IntKind.u64.wrap i=n:=⟨(IntKind.u64.wrap i).toNat,by rw[u64_any];omega⟩
  have hn2:64≤n:=by rw[u64_any] at hn;omega
  rw[hn,key,Nat.min_eq_right hn2]
  have e1:s / 2^64=0:=Nat.div_eq_of_lt (by omega)
  rw[e1]
  simp[Fm.has,h0]
theorem c_spec_NormalForm {h:Heap}{v:Value}{x:Exq}(R:Rep h v x):CallE Tryz.prog fn_spec_NormalForm [v] h (fun u h'=>∃w,u=.tuple #[w,.bool (decide (Fm.Ok x∧Fm.Ok (Fm.push x false)))]∧HS h [ow w (Fm.nfR x)] h'):=by
 have FX:=R.aExq
 have z0:∀{h'},h.le h'→¬(Fm.Ok x∧Fm.Ok (Fm.push x false))→HS h [ow (.agg #[.int .i64 0,.int .i64 0,.slice none 0 0]) (Fm.nfR x)] h':=fun hl hn=>by
  rw[Fm.nfR,if_neg hn]
  exact HS.leaf (Γ:=[]) hl i64c i64c
 refine CallE.gen fun k hk=>EN_spec_NormalForm rfl ?_
 simp -implicitDefEqProofs (disch:=first|omega|(simp only[LnZ];omega))[wrap64,FX]
 refine (c_spec_FormulaValid R).go ?_
 rintro _ _ ⟨rfl,rfl⟩
 by_cases q1:Fm.Ok x
 case neg=>
  simp -implicitDefEqProofs (disch:=first|omega|(simp only[LnZ];omega))[wrap64,q1,setC]
  exact RetK.keep (hk _ _ ⟨_,by rw[decide_eq_false (fun hh=>q1 hh.1)],z0 (Heap.le.refl _) (fun hh=>q1 hh.1)⟩)
 simp -implicitDefEqProofs (disch:=first|omega|(simp only[LnZ];omega))[wrap64,q1,FX]
 refine (c_l5Push 6 q1.1 R).go ?_
 intro u h1 H
 have FU:=H.rep.aExq
 simp -implicitDefEqProofs (disch:=first|omega|(simp only[LnZ];omega))[wrap64,FU]
 refine (c_spec_FormulaValid H.rep).go ?_
 rintro _ _ ⟨rfl,rfl⟩
 by_cases q2:Fm.Ok (Fm.push x false)
 case neg=>
  simp -implicitDefEqProofs (disch:=first|omega|(simp only[LnZ];omega))[wrap64,q2,setC]
  exact RetK.keep (hk _ _ ⟨_,by rw[decide_eq_false (fun hh=>q2 hh.2)],z0 H.base (fun hh=>q2 hh.2)⟩)
 simp -implicitDefEqProofs (disch:=first|omega|(simp only[LnZ];omega))[wrap64,q2,FU,setC]
 exact RetK.keep (hk _ _ ⟨_,by rw[decide_eq_true ⟨q1,q2⟩],by rw[Fm.nfR,if_pos ⟨q1,q2⟩];exact H⟩)
theorem c_l7Basic {h:Heap}{v:Value}{x:Exq}(R:Rep h v x):CallE Tryz.prog fn_spec_l7Basic [v] h (fun u h'=>h'=h∧u=.bool (Fm.bas x)):=by
 obtain⟨w,rfl,k1,k2,R1⟩:=Rep_Exq.1 R
 refine CallE.gen fun k hk=>EN_spec_l7Basic rfl ?_
 by_cases c2:x.kind=2
 ·simp -implicitDefEqProofs (disch:=first|omega|(simp only[LnZ];omega))[wrap64,c2]
  exact RetK.keep (hk _ _ ⟨rfl,by simp[Fm.bas,c2]⟩)
 by_cases c6:x.kind=6
 ·simp -implicitDefEqProofs (disch:=first|omega|(simp only[LnZ];omega))[wrap64,c2,c6]
  exact RetK.keep (hk _ _ ⟨rfl,by simp[Fm.bas,c6]⟩)
 by_cases c7:x.kind=7
 ·simp -implicitDefEqProofs (disch:=first|omega|(simp only[LnZ];omega))[wrap64,c2,c6,c7]
  exact RetK.keep (hk _ _ ⟨rfl,by simp[Fm.bas,c7]⟩)
 simp -implicitDefEqProofs (disch:=first|omega|(simp only[LnZ];omega))[wrap64,c2,c6,c7]
 exact RetK.keep (hk _ _ ⟨rfl,by simp[Fm.bas,c2,c6,c7]⟩)
theorem c_l6Has {h:Heap}{s:Nat}{i:Int}(hs:s<4611686018427387904) (hi:I64 i):CallE Tryz.prog fn_spec_l6Has [.int .i64 s,.int .i64 i] h (fun u h'=>h'=h∧u=.bool (Fm.has s i)):=by
 have he:=has_eq hs hi
 refine CallE.gen fun k hk=>EN_spec_l6Has rfl ?_
 cases hh:Fm.has s i with
 | true=>
  have e:=he.2 hh
  simp -implicitDefEqProofs (disch:=first|omega|(simp only[LnZ];omega))[wrap64,u64_nn,e]
  exact RetK.keep (hk _ _ ⟨rfl,by rw[hh]⟩)
 | false=>
  have e:¬(andI .i64 (shrI .i64 (s:Int) (IntKind.u64.wrap i)) 1=1):=fun e=>by rw[he.1 e] at hh;exact absurd hh (by decide)
  simp -implicitDefEqProofs (disch:=first|omega|(simp only[LnZ];omega))[wrap64,u64_nn,e]
  exact RetK.keep (hk _ _ ⟨rfl,by rw[hh]⟩)
theorem Fm.fx_i64 {l:List Exq}{x:Exq}(h:l.length<4611686018427387904):I64 (Fm.fx l x):=by
 by_cases hm:x∈l
 ·obtain⟨i,hi,e,_⟩:=Fm.fx_mem hm
  rw[e]
  exact⟨by omega,by omega⟩
 ·rw[Fm.fx_not hm]
  exact⟨by decide,by decide⟩
theorem c_l7Value:∀(n:Nat) {x:Exq}{h:Heap}{v w:Value}{B:List Exq}{s:Nat},s<4611686018427387904→Fm.Shp n x→Rep h w B→Rep h v x→CallE Tryz.prog fn_spec_l7Value [w,.int .i64 s,v] h (fun u h'=>h'=h∧u=.bool (Fm.val B s x)):=by
 intro n
 induction n with
 | zero=>intro x h v w B s _ hs;exact hs.elim
 | succ n ih=>
 intro x h v w B s hsn hs RB R
 have FX:=R.aExq
 have R0:=R
 have hL:=RB.lt
 obtain⟨wk,rfl,k1,k2,R1⟩:=Rep_Exq.1 R
 have hve:=Fm.val_eq (B:=B) (s:=s) x
 refine CallE.gen fun k hk=>EN_spec_l7Value rfl ?_
 rw[hve] at hk
 by_cases c1:x.kind=1
 ·simp -implicitDefEqProofs (disch:=first|omega|(simp only[LnZ];omega))[wrap64,c1]
  exact RetK.keep (hk _ _ ⟨rfl,by rw[if_pos c1]⟩)
 rw[if_neg c1] at hk
 have kid:∀{j:Nat}(hj:j<x.kids.length),∃u,hload h (some (elp 3 wk j)) (some 3)=some u∧Rep h u x.kids[j]:=fun hj=>R1.ld hj
 have hX:=R1.X (n:=3) rfl
 by_cases c3:x.kind=3
 ·rw[if_pos c3] at hk
  have hl:=hs.one (.inl c3)
  obtain⟨u0,hu0,Ru0⟩:=kid (j:=0) (by omega)
  rw[Fm.kv_at (j:=0) (by omega)] at hk
  simp -implicitDefEqProofs (disch:=first|omega|(simp only[LnZ];omega))[wrap64,c1,c3,hX,hu0]
  refine (ih hsn (hs.kid (i:=0) (by omega)) RB Ru0).go ?_
  rintro _ _ ⟨rfl,rfl⟩
  simp -implicitDefEqProofs (disch:=omega)[wrap64]
  exact RetK.keep (hk _ _ ⟨rfl,rfl⟩)
 rw[if_neg c3] at hk
 by_cases c45:x.kind=4∨x.kind=5
 ·have hl:=hs.two (by omega)
  obtain⟨u0,hu0,Ru0⟩:=kid (j:=0) (by omega)
  obtain⟨u1,hu1,Ru1⟩:=kid (j:=1) (by omega)
  rw[Fm.kv_at (j:=0) (by omega),Fm.kv_at (j:=1) (by omega)] at hk
  have i0:∀{k:Value→Heap→Prop},(∀u h',h'=h∧u=Value.bool (Fm.val B s x.kids[0])→k u h')→CallE Tryz.prog fn_spec_l7Value [w,.int .i64 s,u0] h k:=fun hk=>(ih hsn (hs.kid (i:=0) (by omega)) RB Ru0).mono hk
  cases hv0:Fm.val B s x.kids[0]
  all_goals
   rw[hv0] at hk
   rcases c45 with c4 | c4
   all_goals
    simp -implicitDefEqProofs (disch:=first|omega|(simp only[LnZ];omega))[wrap64,c1,c3,c4,hX,hu0]
    refine (ih hsn (hs.kid (i:=0) (by omega)) RB Ru0).go ?_
    rintro _ _ ⟨rfl,rfl⟩
    simp -implicitDefEqProofs (disch:=first|omega|(simp only[LnZ];omega))[wrap64,hv0,c4,hX,hu1]
    first
     |exact RetK.keep (hk _ _ ⟨rfl,by simp[c4]⟩)
     | (refine (ih hsn (hs.kid (i:=1) (by omega)) RB Ru1).go ?_
        rintro _ _ ⟨rfl,rfl⟩
        simp -implicitDefEqProofs (disch:=omega)[wrap64]
        exact RetK.keep (hk _ _ ⟨rfl,by simp[c4]⟩))
 have c4:¬x.kind=4:=fun e=>c45 (.inl e)
 have c5:¬x.kind=5:=fun e=>c45 (.inr e)
 rw[if_neg c4,if_neg c5] at hk
 simp -implicitDefEqProofs (disch:=first|omega|(simp only[LnZ];omega))[wrap64,c1,c3,c4,c5,FX]
 refine (c_l5Find RB R0).go ?_
 rintro _ _ ⟨rfl,rfl⟩
 simp -implicitDefEqProofs (disch:=omega)[wrap64]
 refine (c_l6Has hsn (Fm.fx_i64 hL)).go ?_
 rintro _ _ ⟨rfl,rfl⟩
 simp -implicitDefEqProofs (disch:=omega)[wrap64]
 exact RetK.keep (hk _ _ ⟨rfl,rfl⟩)
section
variable {α:Type} [Ty α] {h h':Heap}{v:Value}{l:List α}{M:List (Mix α)}
theorem Raws.le (H:Raws h l M) (hl:h.le h'):Raws h' l M:=⟨H.len,fun i hi=>by
 obtain⟨c,h1,h2⟩:=H.at' i hi
 exact⟨c,h1,Ty.mono hl h2⟩⟩
theorem Raws.nil:Raws h ([]:List α) []:=⟨rfl,fun i hi=>absurd hi (Nat.not_lt_zero i)⟩
theorem Raws.set (H:Raws h l M) {i:Nat}{y:α}{c:List Value}(hy:Ty.rep h c y):Raws h (l.set i y) (M.set i (.raw c)):=by
 refine⟨by simp[H.len],fun j hj=>?_⟩
 rw[List.length_set] at hj
 by_cases e:i=j
 ·subst e
  exact⟨c,by rw[List.getElem?_set_self (by rw[H.len];exact hj)],by simpa using hy⟩
 ·obtain⟨c',h1,h2⟩:=H.at' j hj
  exact⟨c',by rw[List.getElem?_set_ne e];exact h1,by rw[List.getElem_set_ne e];exact h2⟩
theorem Raws.push (H:Raws h l M) {y:α}{c:List Value}(hy:Ty.rep h c y):Raws h (l++[y]) (M++[.raw c]):=by
 refine⟨by simp[H.len],fun j hj=>?_⟩
 by_cases e:j<l.length
 ·obtain⟨c',h1,h2⟩:=H.at' j e
  exact⟨c',by rw[List.getElem?_append_left (by rw[H.len];exact e)];exact h1,by rw[List.getElem_append_left e];exact h2⟩
 ·obtain rfl:j=l.length:=by simp at hj;omega
  exact⟨c,by rw[← H.len,List.getElem?_append_right (Nat.le_refl _)];simp,by simpa using hy⟩
theorem Rep.raws (R:Rep h v M) (H:Raws h l M):Rep h v l:=by
 obtain⟨p,cap,rfl,h1,h2,h3⟩:=Rep_list.1 R
 refine Rep_list.2 ⟨p,cap,by rw[H.len],by rw[← H.len];exact h1,h2,fun i hi=>?_⟩
 obtain⟨b,off,vs,e1,e2,e3⟩:=h3 i (by rw[H.len];exact hi)
 obtain⟨c,f1,f2⟩:=H.at' i hi
 rw[List.getElem?_eq_getElem (by rw[H.len];exact hi)] at f1
 rw[Option.some.inj f1] at e3
 obtain⟨rfl,_⟩:=e3
 exact⟨b,off,vs,e1,e2,f2⟩
theorem HS.rawO {g:Heap}{Γ:List HP}(H:HS g Γ h) {c:List Value}{y:α}(hy:Ty.rep h' c y):HS g (ow (valC (Ty.agg α) c) (Mix.raw (α:=α) c)::Γ) h:=
 ⟨h,Heap.nil,by simp,by simp,⟨c,rfl,rfl,rfl,Ty.len hy,Ty.cell hy⟩,H⟩
end
theorem flt_take {α:Type}{p:α→Bool}{l:List α}{i:Nat}(hi:i<l.length):(l.take (i+1)).filter p=(l.take i).filter p++if p l[i] then [l[i]] else []:=by
 rw[List.take_add_one,List.getElem?_eq_getElem hi,List.filter_append]
 cases hp:p l[i]<;>simp[hp]
theorem flt_len {α:Type}{p:α→Bool}{l:List α}{i:Nat}:((l.take i).filter p).length≤l.length:=by
 have h1:=List.length_filter_le p (l.take i)
 have h2:(l.take i).length≤l.length:=by rw[List.length_take];omega
 omega
theorem c_spec_BasicFormulas {h:Heap}{v:Value}{x:Exq}(R:Rep h v x):CallE Tryz.prog fn_spec_BasicFormulas [v] h (fun u h'=>∃w,u=.tuple #[w,.bool (decide (Fm.bOk x))]∧h.le h'∧Rep h' w (Fm.basR x)):=by
 have FX:=R.aExq
 refine CallE.gen fun k hk=>EN_spec_BasicFormulas rfl ?_
 simp -implicitDefEqProofs (disch:=first|omega|(simp only[LnZ];omega))[wrap64,FX]
 refine (c_spec_NormalForm R).go ?_
 rintro _ h1 ⟨w,rfl,H⟩
 have FW:=H.rep.aExq
 by_cases q1:Fm.Ok x∧Fm.Ok (Fm.push x false)
 case neg=>
  simp -implicitDefEqProofs (disch:=first|omega|(simp only[LnZ];omega))[wrap64,q1,FW,setC]
  refine H.bls0 Exq fun o h2 H=>?_
  simp -implicitDefEqProofs (disch:=omega)[wrap64]
  exact RetK.keep (hk _ _ ⟨o,by rw[decide_eq_false (fun hh=>q1 hh.1)],H.base,by rw[Fm.basR,if_neg (fun hh=>q1 hh.1)];exact H.rep⟩)
 rw[Fm.nfR,if_pos q1] at H
 simp -implicitDefEqProofs (disch:=first|omega|(simp only[LnZ];omega))[wrap64,q1,FW,setC]
 refine H.bls0 (Mix Exq) fun o h2 H=>?_
 simp -implicitDefEqProofs (disch:=first|omega|(simp only[LnZ];omega))[wrap64,FW]
 have hnd:=q1.2.2
 refine (c_l5Subs (Fm.push x false) (g:=h2) (Γ:=[]) (out:=[]) (by simp;omega) H.sw1.rep (HS.init.nil_ow)).go ?_
 intro ls h3 G
 have H:=G.app H
 have hsl:=Fm.subs_len (Fm.push x false) []
 have hbd:Fm.basics x=(Fm.subs (Fm.push x false) []).filter Fm.bas:=rfl
 obtain⟨g1,H1,H2⟩:=HS.rebase (Δ:=[ow o ([]:List (Mix Exq))]) (Γ:=[ow ls (Fm.subs (Fm.push x false) []),ow w (Fm.push x false)]) H.sw1
 have lb:=H1.base
 have RL:=H1.rep
 clear H1 H G
 generalize Fm.subs (Fm.push x false) []=S at *
 simp only[List.length_nil,Nat.zero_add] at hsl
 simp -implicitDefEqProofs (disch:=omega)[wrap64]
 refine wp_count S.length (fun i e h'=>∃(o:Value) (N:List (Mix Exq)),e=[none,none,none,none,none,none,some o,some ls,some (.int .i64 i)]∧HS g1 [ow o N] h'∧Raws g1 ((S.take i).filter Fm.bas) N) ⟨o,[],by simp,H2,by simpa using Raws.nil⟩ ?_
 clear H2
 rintro J i _ h4 hJ hi ⟨o,N,rfl,H,hN⟩
 simp -implicitDefEqProofs (disch:=first|omega|(simp only[LnZ];omega))[wrap64,(RL.on H).len]
 refine IteW.mk (fun hlt=>?_) (fun hge=>?_)
 ·have hlx:i<S.length:=by omega
  obtain⟨u,hu,Ru⟩:=RL.ld hlx
  have hu':=hload_le H.base hu
  change hload _ (some (elp 3 ls i)) (some 3)=some u at hu'
  have hX:=RL.X (n:=3) rfl
  have FU:=Ru.aExq
  have hft:=flt_take (p:=Fm.bas) hlx
  have hNl:N.length≤64:=by
   rw[hN.len]
   have:=flt_len (p:=Fm.bas) (l:=S) (i:=i)
   omega
  simp -implicitDefEqProofs (disch:=first|omega|(simp only[LnZ];omega))[wrap64,hX,hu',FU]
  refine (c_l7Basic (Ru.on H)).go ?_
  rintro _ _ ⟨rfl,rfl⟩
  cases hb:Fm.bas S[i] with
  | false=>
   simp -implicitDefEqProofs (disch:=omega)[wrap64]
   exact hJ _ _ hlx ⟨o,N,by simp,H,by rw[hft,hb];simpa using hN⟩
  | true=>
   obtain⟨wq,rfl,kk1,kk2,Rq⟩:=Rep_Exq.1 Ru
   have hcs:Ty.rep g1 [.int .i64 S[i].kind,.int .i64 S[i].val,wq] S[i]:=repExq.2 ⟨wq,rfl,kk1,kk2,Rq⟩
   have hOq:=Rq.one
   simp -implicitDefEqProofs (disch:=first|omega|(simp only[LnZ];omega))[wrap64,hX,hu',setC,hOq]
   refine HS.appO (α:=Mix Exq) (bytes:=40) (H.rawO hcs) rfl rfl rfl rfl rfl (by omega) (by omega) fun o' h5 H=>?_
   simp -implicitDefEqProofs (disch:=omega)[wrap64]
   refine hJ _ _ hlx ⟨o',_,by simp,H,?_⟩
   rw[hft,hb,if_pos rfl]
   exact hN.push hcs
 rw[List.take_of_length_le (by omega),← hbd] at hN
 have hNl:=hN.len
 by_cases q2:(Fm.basics x).length≤5
 ·have bok:Fm.bOk x:=⟨q1,q2⟩
  have hlt:¬(5:Int)<N.length:=by omega
  simp -implicitDefEqProofs (disch:=first|omega|(simp only[LnZ];omega))[wrap64,H.rep.len,hlt]
  exact RetK.keep (hk _ _ ⟨o,by rw[decide_eq_true bok],lb.trans H.base,by rw[Fm.basR,if_pos bok];exact H.rep.raws (hN.le H.base)⟩)
 ·have nok:¬Fm.bOk x:=fun hh=>q2 hh.2
  have hlt:(5:Int)<N.length:=by omega
  simp -implicitDefEqProofs (disch:=first|omega|(simp only[LnZ];omega))[wrap64,H.rep.len,hlt]
  refine H.bls0 Exq fun o2 h5 H=>?_
  simp -implicitDefEqProofs (disch:=omega)[wrap64]
  exact RetK.keep (hk _ _ ⟨o2,by rw[decide_eq_false nok],lb.trans H.base,by rw[Fm.basR,if_neg nok];exact H.rep⟩)
structure Bas (B:List Exq):Prop where
 n5:B.length≤5
 ok:∀y∈B,Fm.Shp 6 y∧Fm.bas y=true
theorem Bas.at {B:List Exq}(h:Bas B) {i:Nat}(hi:i<B.length):Fm.Shp 6 B[i]:=(h.ok _ (List.getElem_mem hi)).1
theorem c_l7Follows {h:Heap}{w:Value}{B:List Exq}{s t:Nat}(hB:Bas B) (hs:s<4611686018427387904) (ht:t<4611686018427387904) (R:Rep h w B):CallE Tryz.prog fn_spec_l7Follows [w,.int .i64 s,.int .i64 t] h (fun u h'=>h'=h∧u=.bool (decide (Fm.Fol B s t))):=by
 have hL:=R.lt
 have hn5:=hB.n5
 refine CallE.gen fun k hk=>EN_spec_l7Follows rfl ?_
 simp -implicitDefEqProofs (disch:=omega)[wrap64]
 refine wp_count B.length (fun i e h'=>e=[some w,some (.int .i64 s),some (.int .i64 t),none,some (.int .i64 i),none,none,none,none]∧h'=h∧∀(j:Nat) (hj:j<B.length),j<i→Fm.got B s t j B[j]=s.testBit j) ⟨by simp,rfl,fun j _ hj=>absurd hj (Nat.not_lt_zero j)⟩ ?_
 rintro J i _ h hJ hi ⟨rfl,rfl,hq⟩
 simp -implicitDefEqProofs (disch:=first|omega|(simp only[LnZ];omega))[wrap64,R.len]
 refine IteW.mk (fun hlt=>?_) (fun hge=>?_)
 ·have hlx:i<B.length:=by omega
  have hy:Fm.got B s t i B[i]=s.testBit i→J [some w,some (.int .i64 s),some (.int .i64 t),none,some (.int .i64 ((i+1:Nat):Int)),none,none,none,none] h:=fun e=>hJ _ _ hlx ⟨rfl,rfl,fun j hj hji=>by
   by_cases e2:j=i
   ·subst e2;exact e
   ·exact hq j hj (by omega)⟩
  have hno:¬Fm.got B s t i B[i]=s.testBit i→k (.bool false) h:=fun e=>hk _ _ ⟨rfl,by rw[decide_eq_false (fun hh:Fm.Fol B s t=>e (hh i hlx))]⟩
  have hsp:=hB.at hlx
  obtain⟨y,hyd⟩:∃y,y=B[i]:=⟨_,rfl⟩
  obtain⟨u,hu,Ru⟩:=R.ld hlx
  change hload _ (some (elp 3 w i)) (some 3)=some u at hu
  rw[← hyd] at hy hno hsp Ru
  obtain⟨wk,rfl,k1,k2,R1⟩:=Rep_Exq.1 Ru
  have hX:=R.X (n:=3) rfl
  have kO:=R1.one
  have hi64:I64 (i:Int):=⟨by omega,by omega⟩
  have kid:∀{j:Nat}(hj:j<y.kids.length),∃u,hload h (some (elp 3 wk j)) (some 3)=some u∧Rep h u y.kids[j]:=fun hj=>R1.ld hj
  have hY:=R1.X (n:=3) rfl
  have V:∀{j:Nat}(hj:j<y.kids.length) {u:Value}{s:Nat},s<4611686018427387904→Rep h u y.kids[j]→CallE Tryz.prog fn_spec_l7Value [w,.int .i64 s,u] h (fun u h'=>h'=h∧u=.bool (Fm.val B s y.kids[j])):=fun hj _ _ hs r=>c_l7Value 5 hs (hsp.kid hj) R r
  simp -implicitDefEqProofs (disch:=first|omega|(simp only[LnZ];omega))[wrap64,hX,hu,setC,kO]
  refine (c_l6Has hs hi64).go ?_
  rintro _ _ ⟨rfl,rfl⟩
  rw[Fm.has_nat]
  unfold Fm.got at hy hno
  by_cases c6:y.kind=6
  ·have hl:=hsp.one (by omega)
   obtain⟨u0,hu0,Ru0⟩:=kid (j:=0) (by omega)
   rw[if_pos c6,Fm.kv_at (j:=0) (by omega)] at hy hno
   simp -implicitDefEqProofs (disch:=first|omega|(simp only[LnZ];omega))[wrap64,c6,hY,hu0,setC,kO]
   refine (V (by omega) ht Ru0).go ?_
   rintro _ _ ⟨rfl,rfl⟩
   by_cases e:Fm.val B t y.kids[0]=s.testBit i
   ·simp -implicitDefEqProofs (disch:=first|omega|(simp only[LnZ];omega))[wrap64,e]
    simpa using hy e
   ·simp -implicitDefEqProofs (disch:=first|omega|(simp only[LnZ];omega))[wrap64,e]
    exact RetK.keep (hno e)
  rw[if_neg c6] at hy hno
  by_cases c7:y.kind=7
  ·have hl:=hsp.two (by omega)
   obtain⟨u0,hu0,Ru0⟩:=kid (j:=0) (by omega)
   obtain⟨u1,hu1,Ru1⟩:=kid (j:=1) (by omega)
   rw[if_pos c7,Fm.kv_at (j:=0) (by omega),Fm.kv_at (j:=1) (by omega)] at hy hno
   simp -implicitDefEqProofs (disch:=first|omega|(simp only[LnZ];omega))[wrap64,c6,c7,hY,hu1,setC,kO]
   refine (V (by omega) hs Ru1).go ?_
   rintro _ _ ⟨rfl,rfl⟩
   cases hv1:Fm.val B s y.kids[1] with
   | true=>
    rw[hv1] at hy hno
    cases hw:s.testBit i with
    | true=>
     rw[hw] at hy
     simp -implicitDefEqProofs (disch:=first|omega|(simp only[LnZ];omega))[wrap64,hv1,hw]
     simpa using hy (by simp)
    | false=>
     rw[hw] at hno
     simp -implicitDefEqProofs (disch:=first|omega|(simp only[LnZ];omega))[wrap64,hv1,hw]
     exact RetK.keep (hno (by simp))
   | false=>
    rw[hv1] at hy hno
    simp -implicitDefEqProofs (disch:=first|omega|(simp only[LnZ];omega))[wrap64,hv1,hY,hu0]
    refine (V (by omega) hs Ru0).go ?_
    rintro _ _ ⟨rfl,rfl⟩
    cases hv0:Fm.val B s y.kids[0] with
    | false=>
     rw[hv0] at hy hno
     cases hw:s.testBit i with
     | true=>
      rw[hw] at hno
      simp -implicitDefEqProofs (disch:=first|omega|(simp only[LnZ];omega))[wrap64,hv0,hw]
      exact RetK.keep (hno (by simp))
     | false=>
      rw[hw] at hy
      simp -implicitDefEqProofs (disch:=first|omega|(simp only[LnZ];omega))[wrap64,hv0,hw]
      simpa using hy (by simp)
    | true=>
     rw[hv0] at hy hno
     simp -implicitDefEqProofs (disch:=first|omega|(simp only[LnZ];omega))[wrap64,hv0]
     refine (c_l6Has ht hi64).go ?_
     rintro _ _ ⟨rfl,rfl⟩
     rw[Fm.has_nat]
     by_cases e:t.testBit i=s.testBit i
     ·simp -implicitDefEqProofs (disch:=first|omega|(simp only[LnZ];omega))[wrap64,e]
      simpa using hy (by simpa using e)
     ·simp -implicitDefEqProofs (disch:=first|omega|(simp only[LnZ];omega))[wrap64,e]
      exact RetK.keep (hno (by simpa using e))
  rw[if_neg c7] at hy hno
  by_cases c8:y.kind=8
  ·have hl:=hsp.two (by omega)
   obtain⟨u0,hu0,Ru0⟩:=kid (j:=0) (by omega)
   obtain⟨u1,hu1,Ru1⟩:=kid (j:=1) (by omega)
   rw[if_pos c8,Fm.kv_at (j:=0) (by omega),Fm.kv_at (j:=1) (by omega)] at hy hno
   simp -implicitDefEqProofs (disch:=first|omega|(simp only[LnZ];omega))[wrap64,c6,c7,c8,hY,hu1,setC,kO]
   refine (V (by omega) hs Ru1).go ?_
   rintro _ _ ⟨rfl,rfl⟩
   cases hv1:Fm.val B s y.kids[1] with
   | false=>
    rw[hv1] at hy hno
    cases hw:s.testBit i with
    | true=>
     rw[hw] at hno
     simp -implicitDefEqProofs (disch:=first|omega|(simp only[LnZ];omega))[wrap64,hv1,hw]
     exact RetK.keep (hno (by simp))
    | false=>
     rw[hw] at hy
     simp -implicitDefEqProofs (disch:=first|omega|(simp only[LnZ];omega))[wrap64,hv1,hw]
     simpa using hy (by simp)
   | true=>
    rw[hv1] at hy hno
    simp -implicitDefEqProofs (disch:=first|omega|(simp only[LnZ];omega))[wrap64,hv1,hY,hu0]
    refine (V (by omega) hs Ru0).go ?_
    rintro _ _ ⟨rfl,rfl⟩
    cases hv0:Fm.val B s y.kids[0] with
    | true=>
     rw[hv0] at hy hno
     cases hw:s.testBit i with
     | true=>
      rw[hw] at hy
      simp -implicitDefEqProofs (disch:=first|omega|(simp only[LnZ];omega))[wrap64,hv0,hw]
      simpa using hy (by simp)
     | false=>
      rw[hw] at hno
      simp -implicitDefEqProofs (disch:=first|omega|(simp only[LnZ];omega))[wrap64,hv0,hw]
      exact RetK.keep (hno (by simp))
    | false=>
     rw[hv0] at hy hno
     simp -implicitDefEqProofs (disch:=first|omega|(simp only[LnZ];omega))[wrap64,hv0]
     refine (c_l6Has ht hi64).go ?_
     rintro _ _ ⟨rfl,rfl⟩
     rw[Fm.has_nat]
     by_cases e:t.testBit i=s.testBit i
     ·simp -implicitDefEqProofs (disch:=first|omega|(simp only[LnZ];omega))[wrap64,e]
      simpa using hy (by simpa using e)
     ·simp -implicitDefEqProofs (disch:=first|omega|(simp only[LnZ];omega))[wrap64,e]
      exact RetK.keep (hno (by simpa using e))
  rw[if_neg c8] at hy hno
  simp -implicitDefEqProofs (disch:=first|omega|(simp only[LnZ];omega))[wrap64,c6,c7,c8]
  simpa using hy rfl
 ·simp -implicitDefEqProofs (disch:=omega)[wrap64]
  exact RetK.keep (hk _ _ ⟨rfl,by rw[decide_eq_true (show Fm.Fol B s t from fun j hj=>hq j hj (by omega))]⟩)
theorem c_l7Fulfils {h:Heap}{w:Value}{B:List Exq}{s u:Nat}(hB:Bas B) (hs:s<4611686018427387904) (hu:u<B.length) (hk7:B[u].kind=7) (R:Rep h w B):CallE Tryz.prog fn_spec_l7Fulfils [w,.int .i64 s,.int .i64 u] h (fun v h'=>h'=h∧v=.bool (Fm.ful B s u)):=by
 have hL:=R.lt
 have hn5:=hB.n5
 have hi64:I64 (u:Int):=⟨by omega,by omega⟩
 have hsp:=hB.at hu
 have hl:=hsp.two (by omega)
 obtain⟨q,hq,Rq⟩:=R.ld hu
 change hload _ (some (elp 3 w u)) (some 3)=some q at hq
 obtain⟨wk,rfl,k1,k2,R1⟩:=Rep_Exq.1 Rq
 have hX:=R.X (n:=3) rfl
 have hP:=hld_parts (cs:=[.int .i64 B[u].kind,.int .i64 B[u].val,wk]) hq
 obtain⟨u1,hu1,Ru1⟩:=R1.ld (i:=1) (by omega)
 change hload _ (some (elp 3 wk 1)) (some 3)=some u1 at hu1
 have e:B.getD (u:Int).toNat Exq.zero=B[u]:=by simp[hu]
 refine CallE.gen fun k hk=>EN_spec_l7Fulfils rfl ?_
 simp -implicitDefEqProofs (disch:=omega)[wrap64]
 refine (c_l6Has hs hi64).go ?_
 rintro _ _ ⟨rfl,rfl⟩
 rw[Fm.ful,e,Fm.kv_at (j:=1) (by omega)] at hk
 cases hh:Fm.has s u with
 | false=>
  rw[hh] at hk
  simp -implicitDefEqProofs (disch:=first|omega|(simp only[LnZ];omega))[wrap64,hh]
  exact RetK.keep (hk _ _ ⟨rfl,by simp⟩)
 | true=>
  rw[hh] at hk
  simp -implicitDefEqProofs (disch:=first|omega|(simp only[LnZ];omega))[wrap64,hh,hX,hP.1,hP.2.2.1,R1.X (n:=3) rfl,hu1]
  refine (c_l7Value 5 hs (hsp.kid (i:=1) (by omega)) R Ru1).go ?_
  rintro _ _ ⟨rfl,rfl⟩
  simp -implicitDefEqProofs (disch:=omega)[wrap64]
  exact RetK.keep (hk _ _ ⟨rfl,by simp⟩)
theorem c_l7Letter {h:Heap}{w:Value}{B:List Exq}{s:Nat}(hB:Bas B) (hs:s<4611686018427387904) (R:Rep h w B):CallE Tryz.prog fn_spec_l7Letter [w,.int .i64 s] h (fun u h'=>h'=h∧u=.tuple #[.int .i64 ((Fm.ltc B B.length:Nat):Int),.int .i64 ((Fm.ltv B s B.length:Nat):Int)]):=by
 have hL:=R.lt
 have hn5:=hB.n5
 have hall:∀y∈B,Fm.Shp 6 y:=fun y hy=>(hB.ok y hy).1
 refine CallE.gen fun k hk=>EN_spec_l7Letter rfl ?_
 simp -implicitDefEqProofs (disch:=omega)[wrap64]
 refine wp_count B.length (fun i e h'=>e=[some w,some (.int .i64 s),none,none,some (.int .i64 ((Fm.ltc B i:Nat):Int)),some (.int .i64 ((Fm.ltv B s i:Nat):Int)),some (.int .i64 i)]∧h'=h) ⟨by simp[Fm.ltc,Fm.ltv],rfl⟩ ?_
 rintro J i _ h hJ hi ⟨rfl,rfl⟩
 simp -implicitDefEqProofs (disch:=first|omega|(simp only[LnZ];omega))[wrap64,R.len]
 refine IteW.mk (fun hlt=>?_) (fun hge=>?_)
 ·have hlx:i<B.length:=by omega
  have hc:=Fm.ltc_lt hall i (by omega)
  have hv:=Fm.ltv_lt (s:=s) hall i (by omega)
  have e:B.getD i Exq.zero=B[i]:=by simp[hlx]
  have hc1:Fm.ltc B (i+1)=if B[i].kind=2 then Fm.ltc B i|||1<<<B[i].val.toNat else Fm.ltc B i:=by rw[Fm.ltc,e]
  have hv1:Fm.ltv B s (i+1)=if B[i].kind=2∧s.testBit i=true then Fm.ltv B s i|||1<<<B[i].val.toNat else Fm.ltv B s i:=by rw[Fm.ltv,e]
  have hsp:=hB.at hlx
  obtain⟨u,hu,Ru⟩:=R.ld hlx
  change hload _ (some (elp 3 w i)) (some 3)=some u at hu
  obtain⟨wk,rfl,k1,k2,R1⟩:=Rep_Exq.1 Ru
  have hX:=R.X (n:=3) rfl
  have hP:=hld_parts (cs:=[.int .i64 B[i].kind,.int .i64 B[i].val,wk]) hu
  have hlo:=hsp.nd.lo
  have hhi:=hsp.nd.hi
  obtain⟨q,hq⟩:∃q:Nat,B[i].val=q:=⟨_,(Int.toNat_of_nonneg hlo).symm⟩
  have hq3:q<3:=by omega
  have hpl:(0:Int)≤B[i].val:=hlo
  have hsl:shlI .i64 1 (q:Int)=((1<<<q:Nat):Int):=i64_shl1 (by omega)
  have hs8:=Fm.sh3 hq3
  have huq:IntKind.u64.wrap (q:Int)=q:=u64_pos (by omega) (by omega)
  have hq0:¬(q:Int)<0:=by omega
  have ho1:orI .i64 ((Fm.ltc B i:Nat):Int) ((1<<<q:Nat):Int)=((Fm.ltc B i|||1<<<q:Nat):Int):=i64_or (by omega) (by omega)
  have ho2:orI .i64 ((Fm.ltv B s i:Nat):Int) ((1<<<q:Nat):Int)=((Fm.ltv B s i|||1<<<q:Nat):Int):=i64_or (by omega) (by omega)
  rw[hq,Int.toNat_natCast] at hc1 hv1
  by_cases c2:B[i].kind=2
  case neg=>
   rw[if_neg c2] at hc1
   rw[if_neg (fun hh=>c2 hh.1)] at hv1
   simp -implicitDefEqProofs (disch:=first|omega|(simp only[LnZ];omega))[wrap64,hX,hP.1,hP.2.2.1,c2]
   exact hJ _ _ hlx ⟨by simp[hc1,hv1],rfl⟩
  rw[if_pos c2] at hc1
  generalize hA:1<<<q=A at *
  have hi64:I64 (i:Int):=⟨by omega,by omega⟩
  simp -implicitDefEqProofs (disch:=first|omega|(simp only[LnZ];omega))[wrap64,hX,hP.1,hP.2.2.1,c2,hq,huq,hq0,hsl,ho1]
  refine (c_l6Has hs hi64).go ?_
  rintro _ _ ⟨rfl,rfl⟩
  rw[Fm.has_nat]
  cases hb:s.testBit i with
  | false=>
   rw[if_neg (fun hh=>by rw[hb] at hh;exact absurd hh.2 (by decide))] at hv1
   simp -implicitDefEqProofs (disch:=first|omega|(simp only[LnZ];omega))[wrap64,hb]
   exact hJ _ _ hlx ⟨by simp[hc1,hv1],rfl⟩
  | true=>
   rw[if_pos ⟨c2,hb⟩] at hv1
   simp -implicitDefEqProofs (disch:=first|omega|(simp only[LnZ];omega))[wrap64,hb,hX,hP.1,hP.2.2.1,hq,huq,hq0,hsl,ho2]
   exact hJ _ _ hlx ⟨by simp[hc1,hv1],rfl⟩
 ·obtain rfl:i=B.length:=by omega
  simp -implicitDefEqProofs (disch:=omega)[wrap64]
  exact RetK.keep (hk _ _ ⟨rfl,rfl⟩)
theorem c_l7Untils {h:Heap}{w:Value}{B:List Exq}(hB:Bas B) (R:Rep h w B):CallE Tryz.prog fn_spec_l7Untils [w] h (fun u h'=>HS h [ow u (Fm.unt B B.length)] h'):=by
 have hL:=R.lt
 have hn5:=hB.n5
 refine CallE.gen fun k hk=>EN_spec_l7Untils rfl ?_
 simp -implicitDefEqProofs (disch:=omega)[wrap64]
 refine HS.init.bls0 Int fun o h1 H=>?_
 simp -implicitDefEqProofs (disch:=omega)[wrap64]
 refine wp_count B.length (fun i e h'=>∃o,e=[some w,none,some o,some (.int .i64 i)]∧HS h [ow o (Fm.unt B i)] h') ⟨o,by simp,by simpa[Fm.unt] using H⟩ ?_
 clear H
 rintro J i _ h2 hJ hi ⟨o,rfl,H⟩
 simp -implicitDefEqProofs (disch:=first|omega|(simp only[LnZ];omega))[wrap64,(R.on H).len]
 refine IteW.mk (fun hlt=>?_) (fun hge=>?_)
 ·have hlx:i<B.length:=by omega
  have e:B.getD i Exq.zero=B[i]:=by simp[hlx]
  have hu1:Fm.unt B (i+1)=if B[i].kind=7 then Fm.unt B i++[(i:Int)] else Fm.unt B i:=by rw[Fm.unt,e]
  have hul:=Fm.unt_len (B:=B) i
  obtain⟨u,hu,Ru⟩:=R.ld hlx
  have hu':=hload_le H.base hu
  change hload _ (some (elp 3 w i)) (some 3)=some u at hu'
  obtain⟨wk,rfl,k1,k2,R1⟩:=Rep_Exq.1 Ru
  have hX:=R.X (n:=3) rfl
  have hP:=hld_parts (cs:=[.int .i64 B[i].kind,.int .i64 B[i].val,wk]) hu'
  by_cases c7:B[i].kind=7
  ·rw[if_pos c7] at hu1
   simp -implicitDefEqProofs (disch:=first|omega|(simp only[LnZ];omega))[wrap64,hX,hP.1,hP.2.2.1,c7]
   refine HS.app1 (bytes:=8) H (i:Int) rfl rfl rfl ⟨by omega,by omega⟩ rfl rfl (by omega) (by omega) fun o' h3 H=>?_
   simp -implicitDefEqProofs (disch:=omega)[wrap64]
   exact hJ _ _ hlx ⟨o',by simp,by rw[hu1];exact H⟩
  ·rw[if_neg c7] at hu1
   simp -implicitDefEqProofs (disch:=first|omega|(simp only[LnZ];omega))[wrap64,hX,hP.1,hP.2.2.1,c7]
   exact hJ _ _ hlx ⟨o,by simp,by rw[hu1];exact H⟩
 ·obtain rfl:i=B.length:=by omega
  simp -implicitDefEqProofs (disch:=omega)[wrap64]
  exact RetK.keep (hk _ _ H)
theorem c_l7Phase {h:Heap}{w v:Value}{B:List Exq}{s:Nat}{p:Int}(hB:Bas B) (hs:s<4611686018427387904) (R:Rep h w B) (RU:Rep h v (Fm.unt B B.length)) (hp:Fm.POk (Fm.unt B B.length) p) :
  CallE Tryz.prog fn_spec_l7Phase [w,v,.int .i64 s,.int .i64 p] h (fun u h'=>h'=h∧u=.tuple #[.int .i64 (Fm.phs B (Fm.unt B B.length) s p).1,.bool (Fm.phs B (Fm.unt B B.length) s p).2]):=by
 have hul:=Fm.unt_len (B:=B) B.length
 have hum:∀{u:Int},u∈Fm.unt B B.length→_:=fun h=>Fm.unt_mem h
 have hn5:=hB.n5
 refine CallE.gen fun k hk=>EN_spec_l7Phase rfl ?_
 unfold Fm.phs at hk
 generalize Fm.unt B B.length=U at *
 by_cases q0:U.length=0
 ·rw[if_pos q0] at hk
  have q0':U=[]:=List.length_eq_zero_iff.1 q0
  simp -implicitDefEqProofs (disch:=first|omega|(simp only[LnZ];omega))[wrap64,RU.len,q0,q0']
  exact RetK.keep (hk _ _ ⟨rfl,rfl⟩)
 rw[if_neg q0] at hk
 have q0':¬U=[]:=fun e=>q0 (by rw[e];rfl)
 have q0i:¬(U.length:Int)=0:=by omega
 obtain⟨n,rfl⟩:∃n:Nat,p=n:=⟨p.toNat,(Int.toNat_of_nonneg hp.1).symm⟩
 have hnU:n<U.length:=by have:=hp.2;omega
 obtain⟨m,hm1,hm2,hm3⟩:=hum (List.getElem_mem hnU)
 have e1:U.getD (n:Int).toNat 0=(m:Int):=by rw[Int.toNat_natCast,List.getD_eq_getElem?_getD,List.getElem?_eq_getElem hnU,← hm1];rfl
 have hm3':B[m].kind=7:=by rw[← hm3];simp[hm2]
 rw[e1] at hk
 have hRU:=RU.I
 simp -implicitDefEqProofs (disch:=first|omega|(simp only[LnZ];omega))[wrap64,RU.len,q0,q0',q0i,hRU,hm1]
 refine (c_l7Fulfils hB hs hm2 hm3' R).go ?_
 rintro _ _ ⟨rfl,rfl⟩
 cases hf:Fm.ful B s m with
 | true=>
  rw[hf] at hk
  simp -implicitDefEqProofs (disch:=first|omega|(simp only[LnZ];omega))[wrap64,hf,RU.len,q0i,q0']
  exact RetK.keep (hk _ _ ⟨rfl,by simp⟩)
 | false=>
  rw[hf] at hk
  simp -implicitDefEqProofs (disch:=first|omega|(simp only[LnZ];omega))[wrap64,hf]
  exact RetK.keep (hk _ _ ⟨rfl,by simp⟩)
theorem c_l2IntsM {h:Heap}{a b:Value}{x y:List Int}(Ra:Rep h a x) (Rb:Rep h b y):CallE Tryz.prog fn_spec_l2Ints [a,b] h (fun u h'=>h'=h∧u=.bool (decide (x=y))):=by
 have hL:=Ra.lt
 refine CallE.gen fun k hk=>EN_spec_l2Ints rfl ?_
 by_cases hl:(x.length:Int)=y.length
 case neg=>
  simp -implicitDefEqProofs (disch:=first|omega|(simp only[LnZ];omega))[wrap64,Ra.len,Rb.len,hl]
  exact RetK.keep (hk _ _ ⟨rfl,by congr 1;rw[eq_comm,decide_eq_false_iff_not];intro e;subst e;exact hl rfl⟩)
 simp -implicitDefEqProofs (disch:=first|omega|(simp only[LnZ];omega))[wrap64,Ra.len,Rb.len,hl]
 refine wp_count x.length (fun i e h'=>e=[some a,some b,none,some (.int .i64 i)]∧h'=h∧x.take i=y.take i) ⟨by simp,rfl,rfl⟩ ?_
 rintro J i _ h1 hJ hi ⟨rfl,rfl,hq⟩
 simp -implicitDefEqProofs (disch:=first|omega|(simp only[LnZ];omega))[wrap64,Ra.len]
 refine IteW.mk (fun hlt=>?_) (fun hge=>?_)
 ·have hlx:i<x.length:=by omega
  have hly:i<y.length:=by omega
  by_cases he:x[i]=y[i]
  ·simp -implicitDefEqProofs (disch:=first|omega|(simp only[LnZ];omega))[wrap64,Ra.I,Rb.I,he]
   exact hJ _ _ hlx ⟨rfl,rfl,take_step hq hlx hly he⟩
  ·simp -implicitDefEqProofs (disch:=first|omega|(simp only[LnZ];omega))[wrap64,Ra.I,Rb.I,he]
   exact RetK.keep (hk _ _ ⟨rfl,by congr 1;rw[eq_comm,decide_eq_false_iff_not];intro e;subst e;exact he rfl⟩)
 ·simp -implicitDefEqProofs (disch:=omega)[wrap64]
  rw[List.take_of_length_le (by omega),List.take_of_length_le (by omega)] at hq
  exact RetK.keep (hk _ _ ⟨rfl,by simp[hq]⟩)
theorem c_l7Pair {g h:Heap}{Γ:List HP}{v w:Value}{L:List (List Int)}{p:List Int}(H:HS g (ow w p::ow v L::Γ) h) (hl:L.length≤1048576):CallE Tryz.prog fn_spec_l7Pair [v,w] h (fun u h'=>∃v',u=.tuple #[v',.int .i64 (Fm.atL L p)]∧HS g (ow v' (Fm.adL L p)::Γ) h'):=by
 have RL:=H.sw1.rep
 have Rp:=H.rep
 refine CallE.gen fun k hk=>EN_spec_l7Pair rfl ?_
 simp -implicitDefEqProofs (disch:=omega)[wrap64]
 refine wp_count L.length (fun i e h'=>e=[some v,some w,none,none,some (.int .i64 i)]∧h'=h∧∀(j:Nat) (hj:j<L.length),j<i→L[j]≠p) ⟨by simp,rfl,fun j _ hj=>absurd hj (Nat.not_lt_zero j)⟩ ?_
 rintro J i _ h hJ hi ⟨rfl,rfl,hn⟩
 simp -implicitDefEqProofs (disch:=first|omega|(simp only[LnZ];omega))[wrap64,RL.len]
 refine IteW.mk (fun hlt=>?_) (fun hge=>?_)
 ·have hlx:i<L.length:=by omega
  obtain⟨u,hu,Ru⟩:=RL.ldL hlx
  simp -implicitDefEqProofs (disch:=first|omega|(simp only[LnZ];omega))[wrap64,RL.X (n:=1) rfl,hu]
  refine (c_l2IntsM Ru Rp).go ?_
  rintro _ h ⟨rfl,rfl⟩
  by_cases e:L[i]=p
  ·simp -implicitDefEqProofs (disch:=first|omega|(simp only[LnZ];omega))[wrap64,e]
   have hm:p∈L:=e▸List.getElem_mem hlx
   exact RetK.keep (hk _ _ ⟨v,by rw[Fm.atL_at hlx e hn],by rw[Fm.adL,if_pos hm];exact H.drop⟩)
  ·simp -implicitDefEqProofs (disch:=first|omega|(simp only[LnZ];omega))[wrap64,e]
   refine hJ _ _ hlx ⟨by simp,rfl,fun j hj hji=>?_⟩
   by_cases hji2:j=i
   ·subst hji2;exact e
   ·exact hn j hj (by omega)
 ·have hm:p∉L:=fun hm=>by
   obtain⟨j,hj,h1⟩:=List.mem_iff_getElem.1 hm
   exact hn j hj (by omega) h1
  have hcl:=Rp.cells
  simp -implicitDefEqProofs (disch:=first|omega|(simp only[LnZ];omega))[wrap64,setC,hcl,Rp.one,RL.len]
  refine HS.appO (bytes:=24) H rfl rfl (by rw[hcl]) rfl rfl (by omega) (by omega) fun v' h2 H=>?_
  simp -implicitDefEqProofs (disch:=first|omega|(simp only[LnZ];omega))[wrap64,RL.len]
  exact RetK.keep (hk _ _ ⟨v',by rw[Fm.atL_not hm],by rw[Fm.adL,if_neg hm];exact H⟩)
theorem zero_Aut {g h:Heap}{Γ:List HP}(H:HS g Γ h):HS g (ow (.agg #[.slice none 0 0,.slice none 0 0,.slice none 0 0]) (⟨[],[],[]⟩:Aut)::Γ) h:=HS.mkAut (a:=⟨[],[],[]⟩) H.nil_ow.nil_ow.nil_ow
theorem p2le {n:Nat}(h:n≤5):2^n≤32:=Nat.pow_le_pow_right (n:=2) (by omega) h
set_option maxHeartbeats 2000000 in
theorem c_spec_TranslateFormula {h:Heap}{v:Value}{x:Exq}(R:Rep h v x):CallE Tryz.prog fn_spec_TranslateFormula [v] h (fun u h'=>∃w,u=.tuple #[w,.bool (decide (Fm.trOk x))]∧HS h [ow w (Fm.trR x)] h'):=by
 have FX:=R.aExq
 have hno:∀{h'},h.le h'→¬Fm.trOk x→HS h [ow (.agg #[.slice none 0 0,.slice none 0 0,.slice none 0 0]) (Fm.trR x)] h':=fun hl hn=>by
  rw[Fm.trR,if_neg hn]
  exact zero_Aut (Γ:=[]) hl
 refine CallE.gen fun k hk=>EN_spec_TranslateFormula rfl ?_
 simp -implicitDefEqProofs (disch:=first|omega|(simp only[LnZ];omega))[wrap64,FX]
 refine (c_spec_BasicFormulas R).go ?_
 rintro _ h1 ⟨w,rfl,l1,RB⟩
 by_cases q1:Fm.bOk x
 case neg=>
  simp -implicitDefEqProofs (disch:=first|omega|(simp only[LnZ];omega))[wrap64,q1,setC]
  exact RetK.keep (hk _ _ ⟨_,by rw[decide_eq_false (fun hh=>q1 hh.1)],hno l1 (fun hh=>q1 hh.1)⟩)
 rw[Fm.basR,if_pos q1] at RB
 simp -implicitDefEqProofs (disch:=first|omega|(simp only[LnZ];omega))[wrap64,q1,FX]
 refine (c_spec_NormalForm (R.le l1)).go ?_
 rintro _ h2 ⟨gu,rfl,H⟩
 rw[Fm.nfR,if_pos q1.1] at H
 have hB:Bas (Fm.basics x):=⟨q1.2,Fm.basics_ok q1⟩
 have hgs:=q1.1.2.1
 have FG:=H.rep.aExq
 have hTA:Fm.trT x=Fm.tN (Fm.basics x) (Fm.unt (Fm.basics x) (Fm.basics x).length) (Fm.ini0 (Fm.basics x) (Fm.push x false) (2^(Fm.basics x).length)) 64:=rfl
 have hTr:Fm.trA x=⟨Fm.upto (Fm.ini0 (Fm.basics x) (Fm.push x false) (2^(Fm.basics x).length)).length,if (Fm.trT x).1=[] then [false] else (Fm.trT x).2.1,(Fm.trT x).2.2⟩:=rfl
 have hTO:Fm.trOk x↔(Fm.trT x).1.length≤64:=⟨fun hh=>hh.2,fun hh=>⟨q1,hh⟩⟩
 have RB:=RB.on H
 have RG:=H.rep
 have l2:=l1.trans H.base
 clear H
 generalize Fm.basics x=B at *
 generalize Fm.push x false=G at *
 have hn5:=hB.n5
 have hc32:=p2le hn5
 have hc1:0<2^B.length:=Nat.two_pow_pos _
 have hcnt:shlI .i64 1 (B.length:Int)=((2^B.length:Nat):Int):=by rw[i64_shl1 (by omega),Nat.shiftLeft_eq,Nat.one_mul]
 have hcw:IntKind.u64.wrap (B.length:Int)=B.length:=u64_pos (by omega) (by omega)
 have hcw0:¬(B.length:Int)<0:=by omega
 obtain⟨c,hcd⟩:∃c:Nat,c=2^B.length:=⟨_,rfl⟩
 simp -implicitDefEqProofs (disch:=first|omega|(simp only[LnZ];omega))[wrap64,FG,setC,RB.len,hcw,hcw0,hcnt]
 refine (c_l7Untils hB RB).go ?_
 intro un h3 H
 have RB:=RB.on H
 have RG:=RG.on H
 have RU:=H.rep
 have l3:=l2.trans H.base
 clear H
 simp -implicitDefEqProofs (disch:=first|omega|(simp only[LnZ];omega))[wrap64,setC]
 refine (HS.init (h:=h3)).bls0 (List Int) fun o h4 H=>?_
 simp -implicitDefEqProofs (disch:=omega)[wrap64]
 rw[← hcd] at hc32 hc1 hTA hTr
 refine wp_count c (fun s e h'=>∃(li ls:Value),e=[none,none,some (.agg #[.slice none 0 0,.slice none 0 0,.slice none 0 0]),none,some w,none,some gu,some (.int .i64 c),some un,some (.agg #[li,.slice none 0 0,.slice none 0 0]),some ls,some (.int .i64 s),none,none,none,none,none,none,none,none]∧HS h3 [ow li (Fm.upto (Fm.ini0 B G s).length),ow ls (Fm.ini0 B G s)] h') ⟨.slice none 0 0,o,by simp[hcd],by simpa[Fm.ini0,Fm.upto] using H.nil_ow (α:=Int)⟩ ?_
 clear H
 rintro J s _ h5 hJ hs ⟨li,ls,rfl,H⟩
 simp -implicitDefEqProofs (disch:=omega)[wrap64]
 refine IteW.mk (fun hlt0=>?_) (fun hge0=>?_)
 ·have hsc:s<c:=by omega
  have hil:=Fm.ini0_len (B:=B) (g:=G) s
  have hi1:Fm.ini0 B G (s+1)=if Fm.val B s G then Fm.ini0 B G s++[[(s:Int),0]] else Fm.ini0 B G s:=rfl
  simp -implicitDefEqProofs (disch:=first|omega|(simp only[LnZ];omega))[wrap64,FG]
  refine (c_l7Value 6 (by omega) hgs (RB.on H) (RG.on H)).go ?_
  rintro _ _ ⟨rfl,rfl⟩
  generalize Fm.ini0 B G s=L at *
  cases hv:Fm.val B s G with
  | false=>
   rw[hv,if_neg (by decide)] at hi1
   simp -implicitDefEqProofs (disch:=first|omega|(simp only[LnZ];omega))[wrap64,hv]
   exact hJ _ _ hsc ⟨li,ls,by simp,by rw[hi1];exact H⟩
  | true=>
   rw[hv,if_pos rfl] at hi1
   simp -implicitDefEqProofs (disch:=first|omega|(simp only[LnZ];omega))[wrap64,hv,H.sw1.rep.len,setC]
   refine HS.app1 (bytes:=8) H (L.length:Int) rfl rfl rfl ⟨by omega,by omega⟩ rfl rfl (by simp[Fm.upto];omega) (by simp[Fm.upto];omega) fun li' h6 H=>?_
   simp -implicitDefEqProofs (disch:=first|omega|(simp only[LnZ];omega))[wrap64,setC,H.rep.cells,H.rep.one]
   refine H.bls [(s:Int),0] rfl rfl (by intro y hy;simp at hy;rcases hy with rfl | rfl<;>exact⟨by omega,by omega⟩) (by decide) fun p h7 H=>?_
   simp -implicitDefEqProofs (disch:=first|omega|(simp only[LnZ];omega))[wrap64,setC,H.rep.cells,H.rep.one]
   have hcl:=H.rep.cells
   refine HS.appO (bytes:=24) H.sw2.sw1 rfl rfl (by rw[hcl]) rfl rfl (by omega) (by omega) fun ls' h8 H=>?_
   simp -implicitDefEqProofs (disch:=omega)[wrap64]
   refine hJ _ _ hsc ⟨li',ls',by simp,?_⟩
   rw[hi1,List.length_append,List.length_singleton,Fm.upto_succ]
   exact H.sw1
 obtain rfl:s=c:=by omega
 obtain⟨L0,hL0⟩:∃L0,L0=Fm.ini0 B G s:=⟨_,rfl⟩
 obtain⟨U,hU⟩:∃U,U=Fm.unt B B.length:=⟨_,rfl⟩
 have hl0:=Fm.ini0_len (B:=B) (g:=G) s
 have hk0:Fm.LOk2 s U (Fm.ini0 B G s):=Fm.ini0_ok (Nat.le_refl _)
 have RU':=RU
 rw[← hL0] at H hTA hTr hl0 hk0
 rw[← hU] at hTA RU'
 have INV:=fun n=>Fm.tN_inv (U:=U) (hcd▸hk0) (hcd▸hl0) n
 simp -implicitDefEqProofs (disch:=omega)[wrap64]
 refine wp_count 65 (fun i e h'=>∃(ac ed ls:Value),e=[none,none,some (.agg #[.slice none 0 0,.slice none 0 0,.slice none 0 0]),none,some w,none,none,some (.int .i64 s),some un,some (.agg #[li,ac,ed]),some ls,none,some (.int .i64 i),none,none,none,none,none,none,none] ∧
  HS h3 [ow ls (Fm.tN B U L0 i).1,ow ac (Fm.tN B U L0 i).2.1,ow ed (Fm.tN B U L0 i).2.2,ow li (Fm.upto L0.length)] h'∧i≤64∧∀m,m<i→m<(Fm.tN B U L0 m).1.length∧(Fm.tN B U L0 m).1.length≤64) ⟨.slice none 0 0,.slice none 0 0,ls,by simp,by simpa[Fm.tN] using (H.nil_ow (α:=Tr)).nil_ow.sw3,by omega,fun m hm=>absurd hm (Nat.not_lt_zero m)⟩ ?_
 clear H
 rintro J1 i _ h6 hJ1 hi1 ⟨ac,ed,ls,rfl,H,hi64,hall⟩
 have inv:=INV i
 have hal:=Fm.tN_al i hall
 by_cases q2:i<(Fm.tN B U L0 i).1.length
 case neg=>
  have hT:Fm.trT x=Fm.tN B U L0 i:=by rw[hTA];exact Fm.tN_stop (fun hh=>q2 hh.1) 64 hi64
  have hok:Fm.trOk x:=hTO.2 (by rw[hT];omega)
  have hge:=inv.al.2
  rw[hT] at hTr
  have hTR:Fm.trR x=Fm.trA x:=by rw[Fm.trR,if_pos hok]
  by_cases q3:(Fm.tN B U L0 i).1=[]
  ·rw[if_pos q3] at hTr
   simp -implicitDefEqProofs (disch:=first|omega|(simp only[LnZ];omega))[wrap64,H.rep.len,q2,q3,show ¬((i:Int)<0) by omega]
   refine H.bls [false] rfl rfl (by intro _ _;trivial) (by decide) fun fc h7 H=>?_
   simp -implicitDefEqProofs (disch:=first|omega|(simp only[LnZ];omega))[wrap64,setC,H.rep.cells,H.rep.one,H.sw3.rep.one,H.sw4.rep.one,H.sw3.rep.cells,H.sw4.rep.cells]
   refine RetK.keep (hk _ _ ⟨_,by rw[decide_eq_true hok],?_⟩)
   rw[hTR,hTr]
   have H2:HS h3 [ow li (Fm.upto L0.length),ow fc [false],ow ed (Fm.tN B U L0 i).2.2] h7:=((H.sw4.under fun _ H=>H.under fun _ H=>H.drop.drop))
   exact HS.app (Γ:=[]) (HS.mkAut (a:=⟨_,_,_⟩) H2) l3
  ·rw[if_neg q3] at hTr
   have q3':¬((Fm.tN B U L0 i).1.length:Int)=0:=fun e=>q3 (List.length_eq_zero_iff.1 (by omega))
   simp -implicitDefEqProofs (disch:=first|omega|(simp only[LnZ];omega))[wrap64,H.rep.len,q2,q3,q3',setC,H.sw1.rep.one,H.sw2.rep.one,H.sw3.rep.one]
   refine RetK.keep (hk _ _ ⟨_,by rw[decide_eq_true hok],?_⟩)
   rw[hTR,hTr]
   have H2:HS h3 [ow li (Fm.upto L0.length),ow ac (Fm.tN B U L0 i).2.1,ow ed (Fm.tN B U L0 i).2.2] h6:=((H.drop.sw2))
   exact HS.app (Γ:=[]) (HS.mkAut (a:=⟨_,_,_⟩) H2) l3
 by_cases q3:64<(Fm.tN B U L0 i).1.length
 ·have hok:¬Fm.trOk x:=fun hh=>by
   have:=hTO.1 hh
   have h2:=Fm.tN_big q3 64 hi64
   rw[hTA] at this
   omega
  have q3i:(64:Int)<(Fm.tN B U L0 i).1.length:=by omega
  simp -implicitDefEqProofs (disch:=first|omega|(simp only[LnZ];omega))[wrap64,H.rep.len,q2,q3i,setC]
  exact RetK.keep (hk _ _ ⟨_,by rw[decide_eq_false hok],hno (l3.trans H.base) hok⟩)
 have q3i:¬(64:Int)<(Fm.tN B U L0 i).1.length:=by omega
 obtain⟨s',p,he,hs',hp⟩:=inv.ok _ (List.getElem_mem q2)
 rw[← hcd] at hs'
 have hsucc:=Fm.tN_succ q2 (by omega) he
 have hinv1:=inv.al
 have hinv2:=inv.el
 have hinv3:=inv.ok
 have hinv4:=inv.ll
 rw[← hcd] at hsucc hinv2 hinv3 hinv4
 have hpo:=Fm.phs_ok (B:=B) (s:=s') hp
 have hpR:=fun n hn=>Fm.trow_inv (B:=B) (U:=U) (c:=s) (i:=i) (s:=s') (q:=((Fm.tN B U L0 i).1,(Fm.tN B U L0 i).2.2)) hinv3 hpo n hn
 have hl65:(Fm.tN B U L0 i).1.length≤64:=by omega
 generalize hT:Fm.tN B U L0 i=T at *
 obtain⟨row,hrow,Rrow⟩:=H.rep.ldL q2
 rw[he] at Rrow
 have hRI:=Rrow.I
 simp only[List.length_cons,List.length_nil] at hRI
 have hr0:=hRI.2 0 (by omega)
 have hr1:=hRI.2 1 (by omega)
 simp only[List.getElem_cons_zero,List.getElem_cons_succ] at hr0 hr1
 have hX:=H.rep.X (n:=1) rfl
 simp -implicitDefEqProofs (disch:=first|omega|(simp only[LnZ];omega))[wrap64,H.rep.len,q2,q3i,hX,hrow,hRI.1,hr0,hr1]
 refine (c_l7Phase hB (by omega) (RB.on H) (RU.on H) (hU▸hp)).go ?_
 rintro _ h6 ⟨rfl,rfl⟩
 rw[← hU]
 obtain⟨p',a',hph⟩:∃p' a',Fm.phs B U s' p=(p',a'):=⟨_,_,rfl⟩
 rw[hph] at hsucc hpo hpR ⊢
 simp only at hsucc hpo hpR
 have hp64:I64 p':=by
  have h1:=hpo.1
  have h2:=hpo.2
  have h3:U.length≤B.length:=hU▸Fm.unt_len B.length
  exact⟨by omega,by omega⟩
 simp -implicitDefEqProofs (disch:=first|omega|(simp only[LnZ];omega))[wrap64,setC]
 refine HS.app1 (bytes:=1) H.sw1 a' rfl rfl rfl trivial rfl rfl (by omega) (by omega) fun ac' h7 H=>?_
 simp -implicitDefEqProofs (disch:=first|omega|(simp only[LnZ];omega))[wrap64,setC,H.rep.cells,H.rep.one]
 refine (c_l7Letter hB (by omega) (RB.on H)).go ?_
 rintro _ h7 ⟨rfl,rfl⟩
 have hall6:∀y∈B,Fm.Shp 6 y:=fun y hy=>(hB.ok y hy).1
 have hcl8:=Fm.ltc_lt hall6 B.length (Nat.le_refl _)
 have hvl8:=Fm.ltv_lt (s:=s') hall6 B.length (Nat.le_refl _)
 simp -implicitDefEqProofs (disch:=omega)[wrap64]
 refine wp_count s (fun t e h'=>∃(ed ls:Value),e=[none,none,some (.agg #[.slice none 0 0,.slice none 0 0,.slice none 0 0]),none,some w,none,none,some (.int .i64 s),some un,some (.agg #[li,ac',ed]),some ls,none,some (.int .i64 i),some (.int .i64 s'),some (.int .i64 p'),none,some (.int .i64 ((Fm.ltc B B.length:Nat):Int)),some (.int .i64 ((Fm.ltv B s' B.length:Nat):Int)),some (.int .i64 t),none] ∧
  HS h3 [ow ls (Fm.trow B i s' p' t (T.1,T.2.2)).1,ow ed (Fm.trow B i s' p' t (T.1,T.2.2)).2,ow ac' (T.2.1++[a']),ow li (Fm.upto L0.length)] h') ⟨ed,ls,by simp,by simpa[Fm.trow] using H.sw1.sw2.sw1⟩ ?_
 clear H
 rintro J2 t _ h8 hJ2 ht ⟨ed,ls,rfl,H⟩
 simp -implicitDefEqProofs (disch:=omega)[wrap64]
 refine IteW.mk (fun hlt2=>?_) (fun hge2=>?_)
 ·have hts:t<s:=by omega
  have hrow1:Fm.trow B i s' p' (t+1) (T.1,T.2.2)=if Fm.Fol B s' t then (Fm.adL (Fm.trow B i s' p' t (T.1,T.2.2)).1 [(t:Int),p'],(Fm.trow B i s' p' t (T.1,T.2.2)).2++[⟨(i:Int),(Fm.ltc B B.length:Nat),(Fm.ltv B s' B.length:Nat),Fm.atL (Fm.trow B i s' p' t (T.1,T.2.2)).1 [(t:Int),p']⟩]) else Fm.trow B i s' p' t (T.1,T.2.2):=rfl
  have I:=hpR t (by omega)
  have i1:=I.le
  have i2:=I.el
  simp only at i1 i2
  have hmul:i*s≤64*32:=Nat.mul_le_mul hi64 hc32
  have hat:=Fm.atL_lt (L:=(Fm.trow B i s' p' t (T.1,T.2.2)).1) (p:=[(t:Int),p'])
  have had:=Fm.adL_len (L:=(Fm.trow B i s' p' t (T.1,T.2.2)).1) (p:=[(t:Int),p'])
  generalize Fm.trow B i s' p' t (T.1,T.2.2)=Q at *
  simp -implicitDefEqProofs (disch:=omega)[wrap64]
  refine (c_l7Follows (s:=s') (t:=t) hB (by omega) (by omega) (RB.on H)).go ?_
  rintro _ h8 ⟨rfl,rfl⟩
  by_cases hf:Fm.Fol B s' t
  case neg=>
   rw[if_neg hf] at hrow1
   simp -implicitDefEqProofs (disch:=first|omega|(simp only[LnZ];omega))[wrap64,hf]
   exact hJ2 _ _ hts ⟨ed,ls,by simp,by rw[hrow1];exact H⟩
  rw[if_pos hf] at hrow1
  simp -implicitDefEqProofs (disch:=first|omega|(simp only[LnZ];omega))[wrap64,hf]
  refine H.bls [(t:Int),p'] rfl rfl (by intro y hy;simp at hy;rcases hy with rfl | rfl;exact⟨by omega,by omega⟩;exact hp64) (by decide) fun q h9 H=>?_
  simp -implicitDefEqProofs (disch:=omega)[wrap64]
  refine (c_l7Pair H (by omega)).go ?_
  rintro _ h10 ⟨ls',rfl,H⟩
  simp -implicitDefEqProofs (disch:=first|omega|(simp only[LnZ];omega))[wrap64,setC]
  refine HS.app1 (bytes:=32) H.sw1 (⟨(i:Int),(Fm.ltc B B.length:Nat),(Fm.ltv B s' B.length:Nat),Fm.atL Q.1 [(t:Int),p']⟩:Tr) rfl rfl rfl ?_ rfl rfl (by omega) (by omega) fun ed' h11 H=>?_
  ·exact Tr.ok_iff.2 ⟨⟨by simp only;omega,by simp only;omega⟩,⟨by simp only;omega,by simp only;omega⟩,⟨by simp only;omega,by simp only;omega⟩,⟨by simp only;omega,by simp only;omega⟩⟩
  simp -implicitDefEqProofs (disch:=first|omega|(simp only[LnZ];omega))[wrap64,setC,H.rep.cells,H.rep.one]
  exact hJ2 _ _ hts ⟨ed',ls',by simp,by rw[hrow1];exact H.sw1⟩
 obtain rfl:t=s:=by omega
 simp -implicitDefEqProofs (disch:=omega)[wrap64]
 refine hJ1 _ _ (by omega) ⟨ac',ed,ls,by simp,?_,by omega,fun m hm=>?_⟩
 ·rw[hsucc]
  exact H.under fun _ H=>H.sw1
 ·by_cases e:m=i
  ·subst e;rw[hT];exact⟨q2,hl65⟩
  ·exact hall m (by omega)
theorem okL {xs:List Int}(h:∀x∈xs,-9223372036854775808≤x∧x<9223372036854775808):∀x∈xs,Flat.ok x:=h
theorem nods_append:∀{l l2:List Exq},Exq.nods (l++l2)=Exq.nods l+Exq.nods l2
 | [],_=>by simp[Exq.nods]
 | x::l,l2=>by simp[Exq.nods,nods_append (l:=l) (l2:=l2)];omega
theorem c_l5Random {b:Nat}{sl:Value}{l:List (BitVec 8)}:∀(d:Nat),d≤4→∀{g h:Heap}{Γ:List HP}{p:Int},Rep g sl l→HS g (rb b sl p::Γ) h→0≤p→p+4*(2^d:Nat)≤1000000000000 →
  CallE Tryz.prog fn_spec_l5Random [.pointer (some ⟨b,0,none⟩),.int .i64 d] h (fun u h'=>∃(y:Exq) (p':Int),HS g (ow u y::rb b sl p'::Γ) h'∧y.nod<2^(d+1)∧p≤p'∧p'≤p+(4*(2^d:Nat)-2)):=by
 intro d
 induction d with
 | zero=>
  intro _ g h Γ p R H hp hp2
  refine CallE.gen fun k hk=>EN_spec_l5Random rfl ?_
  simp -implicitDefEqProofs (disch:=omega)[wrap64]
  refine (c_pick R H (by omega) (by omega) ⟨by decide,by decide⟩).go ?_
  rintro _ hL1 ⟨r1,rfl,o1,z1,y1,H⟩
  by_cases c1:r1=0
  ·simp -implicitDefEqProofs (disch:=first|omega|(simp only[LnZ];omega))[wrap64,c1]
   refine c_l5True.go ?_
   rintro _ hL2 ⟨rfl,rfl⟩
   simp -implicitDefEqProofs (disch:=first|omega|(simp only[LnZ];omega))[wrap64,setC]
   exact RetK.keep (hk _ _ ⟨Exq.mk 1 0 [],_,H.leaf i64c i64c,by simp[Exq.nod,Exq.nods]<;>omega,by omega,by omega⟩)
  ·simp -implicitDefEqProofs (disch:=first|omega|(simp only[LnZ];omega))[wrap64,c1]
   refine H.bls [(0:Int),1,0,2] rfl rfl (okL (by decide)) (by decide) fun v hL2 H=>?_
   simp -implicitDefEqProofs (disch:=omega)[wrap64]
   refine (c_num R H (by omega) (by omega) (by simp)).go ?_
   rintro _ hL3 ⟨r2,rfl,o2,_,H⟩
   simp -implicitDefEqProofs (disch:=first|omega|(simp only[LnZ];omega))[wrap64,setC]
   exact RetK.keep (hk _ _ ⟨Exq.mk 2 r2 [],_,H.leaf i64c o2,by simp[Exq.nod,Exq.nods]<;>omega,by omega,by omega⟩)
 | succ d ih=>
  intro hd g h Γ p R H hp hp2
  have hq0:2^(d+1)=2*2^d:=by rw[Nat.pow_succ];omega
  have hq1:2^(d+1+1)=4*2^d:=by rw[Nat.pow_succ,Nat.pow_succ];omega
  have hqp:0<2^d:=Nat.two_pow_pos d
  refine CallE.gen fun k hk=>EN_spec_l5Random rfl ?_
  rw[hq0,hq1] at hk
  rw[hq0] at ih
  generalize hQ:2^d=q at *
  by_cases h2:d=0
  ·simp -implicitDefEqProofs (disch:=first|omega|(simp only[LnZ];omega))[wrap64,h2]
   refine (c_pick R H (by omega) (by omega) ⟨by decide,by decide⟩).go ?_
   rintro _ hL1 ⟨r1,rfl,o1,z1,y1,H⟩
   by_cases c1:r1=0
   ·simp -implicitDefEqProofs (disch:=first|omega|(simp only[LnZ];omega))[wrap64,c1]
    refine c_l5True.go ?_
    rintro _ hL2 ⟨rfl,rfl⟩
    simp -implicitDefEqProofs (disch:=first|omega|(simp only[LnZ];omega))[wrap64,setC]
    exact RetK.keep (hk _ _ ⟨Exq.mk 1 0 [],_,H.leaf i64c i64c,by simp[Exq.nod,Exq.nods]<;>omega,by omega,by omega⟩)
   ·simp -implicitDefEqProofs (disch:=first|omega|(simp only[LnZ];omega))[wrap64,c1]
    refine H.bls [(0:Int),1,0,2] rfl rfl (okL (by decide)) (by decide) fun v hL2 H=>?_
    simp -implicitDefEqProofs (disch:=omega)[wrap64]
    refine (c_num R H (by omega) (by omega) (by simp)).go ?_
    rintro _ hL3 ⟨r2,rfl,o2,_,H⟩
    simp -implicitDefEqProofs (disch:=first|omega|(simp only[LnZ];omega))[wrap64,setC]
    exact RetK.keep (hk _ _ ⟨Exq.mk 2 r2 [],_,H.leaf i64c o2,by simp[Exq.nod,Exq.nods]<;>omega,by omega,by omega⟩)
  ·have h3:¬((d:Int)+1<2):=by omega
   simp -implicitDefEqProofs (disch:=first|omega|(simp only[LnZ];omega))[wrap64,h3]
   refine (c_pick R H (by omega) (by omega) ⟨by decide,by decide⟩).go ?_
   rintro _ h1 ⟨r0,rfl,o0,z0,y0,H⟩
   by_cases c0:r0=0
   ·simp -implicitDefEqProofs (disch:=first|omega|(simp only[LnZ];omega))[wrap64,c0]
    refine (c_pick R H (by omega) (by omega) ⟨by decide,by decide⟩).go ?_
    rintro _ hL1 ⟨r1,rfl,o1,z1,y1,H⟩
    by_cases c1:r1=0
    ·simp -implicitDefEqProofs (disch:=first|omega|(simp only[LnZ];omega))[wrap64,c1]
     refine c_l5True.go ?_
     rintro _ hL2 ⟨rfl,rfl⟩
     simp -implicitDefEqProofs (disch:=first|omega|(simp only[LnZ];omega))[wrap64,setC]
     exact RetK.keep (hk _ _ ⟨Exq.mk 1 0 [],_,H.leaf i64c i64c,by simp[Exq.nod,Exq.nods]<;>omega,by omega,by omega⟩)
    ·simp -implicitDefEqProofs (disch:=first|omega|(simp only[LnZ];omega))[wrap64,c1]
     refine H.bls [(0:Int),1,0,2] rfl rfl (okL (by decide)) (by decide) fun v hL2 H=>?_
     simp -implicitDefEqProofs (disch:=omega)[wrap64]
     refine (c_num R H (by omega) (by omega) (by simp)).go ?_
     rintro _ hL3 ⟨r2,rfl,o2,_,H⟩
     simp -implicitDefEqProofs (disch:=first|omega|(simp only[LnZ];omega))[wrap64,setC]
     exact RetK.keep (hk _ _ ⟨Exq.mk 2 r2 [],_,H.leaf i64c o2,by simp[Exq.nod,Exq.nods]<;>omega,by omega,by omega⟩)
   ·simp -implicitDefEqProofs (disch:=first|omega|(simp only[LnZ];omega))[wrap64,c0]
    refine H.bls [(7:Int),9,10,3,4,5,6,8] rfl rfl (okL (by decide)) (by decide) fun v h2 H=>?_
    simp -implicitDefEqProofs (disch:=omega)[wrap64]
    refine (c_num R H (by omega) (by omega) (by simp)).go ?_
    rintro _ h4 ⟨kd,rfl,okd,_,H⟩
    have ha:=Fm.arity_le (k:=kd)
    have ha2:=Fm.arity_ge (k:=kd)
    simp -implicitDefEqProofs (disch:=first|omega|(simp only[LnZ];omega))[wrap64,setC]
    refine c_l5Arity.go ?_
    rintro _ h4 ⟨rfl,rfl⟩
    obtain⟨ar,har⟩:∃ar,ar=Fm.arity kd:=⟨_,rfl⟩
    rw[← har] at ha ha2
    simp -implicitDefEqProofs (disch:=first|omega|(simp only[LnZ];omega))[wrap64,← har]
    refine wp_while (σ:=Nat) (fun j e h'=>∃(ks:List Exq) (w:Value) (p':Int),e=[some (.pointer (some ⟨b,0,none⟩)),some (.int .i64 ((d:Int)+1)),some (.agg #[.int .i64 0,.int .i64 0,.slice none 0 0]),some (.agg #[.int .i64 kd,.int .i64 0,w]),some (.int .i64 (ar-j))]∧HS g (ow w ks::rb b sl p'::Γ) h'∧ks.length=j∧Exq.nods ks≤j*(2*q-1)∧j≤2∧p≤p'∧p'≤p+2+j*(4*q-2)) (fun j=>3-j) 0 ⟨[],.slice none 0 0,_,by simp,H.nil_ow,rfl,by simp[Exq.nods],by omega,by omega,by omega⟩ ?_
    clear H
    rintro J j _ h5 hJ ⟨ks,w,p',rfl,H,hkl,hkn,hj,hp3,hp4⟩
    by_cases c2:(j:Int)<ar
    ·have hj2:j=0∨j=1:=by omega
     simp -implicitDefEqProofs (disch:=first|omega|(simp only[LnZ];omega))[wrap64,c2]
     refine (ih (by omega) R H.sw1 (by omega) (by rcases hj2 with rfl | rfl<;>omega)).go ?_
     rintro _ h6 ⟨y,p2,H,hy,hp5,hp6⟩
     obtain⟨wy,rfl,k1,k2,H'⟩:=H.unExq
     have hO':=H'.rep.one
     have hC':=H'.rep.cells
     simp -implicitDefEqProofs (disch:=first|omega|(simp only[LnZ];omega))[wrap64,setC,hO',hC']
     refine HS.appO (bytes:=40) H.sw2.sw1 rfl rfl rfl rfl rfl (by omega) (by omega) fun w' h7 H=>?_
     have hO:=H.rep.one
     have hC:=H.rep.cells
     simp -implicitDefEqProofs (disch:=first|omega|(simp only[LnZ];omega))[wrap64,setC,hO,hC]
     refine hJ (j+1) _ _ (by omega) ⟨ks++[y],w',p2,by simp;omega,H,by simp[hkl],?_,by omega,by omega,?_⟩
     ·rw[nods_append,show Exq.nods [y]=y.nod by simp[Exq.nods]]
      rcases hj2 with rfl | rfl<;>omega
     ·rcases hj2 with rfl | rfl<;>omega
    ·have hO:=H.rep.one
     have hC:=H.rep.cells
     simp -implicitDefEqProofs (disch:=first|omega|(simp only[LnZ];omega))[wrap64,c2,setC,hO,hC]
     refine RetK.keep (hk _ _ ⟨Exq.mk kd 0 ks,p',HS.mkExq' H okd ⟨by decide,by decide⟩,?_,by omega,?_⟩)
     ·rw[Exq.nod_eq,Exq.kids_mk]
      obtain rfl | rfl | rfl:j=0∨j=1∨j=2:=by omega
      all_goals omega
     ·obtain rfl | rfl | rfl:j=0∨j=1∨j=2:=by omega
      all_goals omega
theorem c_l5Formula2 {b:Nat}{sl:Value}{l:List (BitVec 8)}{g h:Heap}{Γ:List HP}{p:Int}(R:Rep g sl l) (H:HS g (rb b sl p::Γ) h) (hp:0≤p) (hp2:p≤900000000000) :
  CallE Tryz.prog fn_spec_l5Formula [.pointer (some ⟨b,0,none⟩)] h (fun u h'=>∃(y:Exq) (p':Int),HS g (ow u y::rb b sl p'::Γ) h'∧p≤p'∧p'≤p+100∧y.nod≤100):=by
 refine CallE.gen fun k hk=>EN_spec_l5Formula rfl ?_
 simp -implicitDefEqProofs (disch:=omega)[wrap64]
 refine H.bls [(3:Int),2,4,3] rfl rfl (okL (by decide)) (by decide) fun v h1 H=>?_
 simp -implicitDefEqProofs (disch:=omega)[wrap64]
 refine (c_num R H (by omega) (by omega) (by simp)).go ?_
 rintro _ h2 ⟨r,rfl,orr,hr,H⟩
 obtain⟨d,rfl,hd⟩:∃d:Nat,r=d∧d≤4:=by
  simp at hr
  exact⟨r.toNat,by omega,by omega⟩
 have hq:2^d≤2^4:=Nat.pow_le_pow_right (by decide) hd
 simp -implicitDefEqProofs (disch:=omega)[wrap64]
 refine (c_l5Random d hd R H (by omega) (by omega)).go ?_
 rintro _ h3 ⟨y,p1,H,hy,hp3,hp4⟩
 have FY:=H.rep.aExq
 simp -implicitDefEqProofs (disch:=first|omega|(simp only[LnZ];omega))[wrap64,FY]
 refine (c_spec_FormulaValid H.rep).go ?_
 rintro _ h3 ⟨rfl,rfl⟩
 by_cases q:Fm.Ok y
 ·simp -implicitDefEqProofs (disch:=first|omega|(simp only[LnZ];omega))[wrap64,q,FY,setC]
  exact RetK.keep (hk _ _ ⟨y,p1,H,by omega,by omega,by rw[Nat.pow_succ] at hy;omega⟩)
 ·simp -implicitDefEqProofs (disch:=first|omega|(simp only[LnZ];omega))[wrap64,q,setC]
  refine HS.blsO1 ((H.drop).leaf (k:=2) (v:=0) i64c i64c) rfl fun w h4 H=>?_
  simp -implicitDefEqProofs (disch:=first|omega|(simp only[LnZ];omega))[wrap64,setC,H.rep.cells,H.rep.one]
  exact RetK.keep (hk _ _ ⟨_,p1,HS.mkExq' (kd:=10) (vl:=0) H i64c i64c,by omega,by omega,by decide⟩)
theorem c_l5Formula {b:Nat}{sl:Value}{l:List (BitVec 8)}{g h:Heap}{Γ:List HP}{p:Int}(R:Rep g sl l) (H:HS g (rb b sl p::Γ) h) (hp:0≤p) (hp2:p≤900000000000) :
  CallE Tryz.prog fn_spec_l5Formula [.pointer (some ⟨b,0,none⟩)] h (fun u h'=>∃(y:Exq) (p':Int),HS g (ow u y::rb b sl p'::Γ) h'∧p≤p'∧p'≤p+100):=
 (c_l5Formula2 R H hp hp2).to fun _ _ ⟨y,p',h1,h2,h3,_⟩=>⟨y,p',h1,h2,h3⟩
namespace Fm
theorem tN_acc1 {B:List Exq}{U:List Int}{L0:List (List Int)}:∀n,1≤n→(tN B U L0 n).1≠[]→(tN B U L0 n).1.length≤64→1≤(tN B U L0 n).2.1.length
 | 0,h,_,_=>absurd h (by omega)
 | n+1,_,h1,h2=>by
  unfold tN at h1 h2 ⊢
  simp only at h1 h2 ⊢
  split
  ·simp
  ·rename_i hc
   rw[if_neg hc] at h1 h2
   by_cases e:n=0
   ·subst e
    exfalso
    apply hc
    exact⟨List.length_pos_iff.2 h1,h2⟩
   ·exact tN_acc1 n (by omega) h1 h2
theorem trow_len {B:List Exq}{i s:Nat}{p:Int}{q:List (List Int)×List Tr}:∀n,(trow B i s p n q).2.length≤q.2.length+n
 | 0=>by simp[trow]
 | n+1=>by
  have ih:=trow_len (B:=B) (i:=i) (s:=s) (p:=p) (q:=q) n
  unfold trow
  simp only
  split
  ·simp;omega
  ·omega
theorem tN_ratio {B:List Exq}{U:List Int}{L0:List (List Int)}:∀n,(tN B U L0 n).2.2.length≤(tN B U L0 n).2.1.length*2^B.length
 | 0=>by simp[tN]
 | n+1=>by
  have ih:=tN_ratio (B:=B) (U:=U) (L0:=L0) n
  unfold tN
  simp only
  split
  ·have h1:=trow_len (B:=B) (i:=n) (s:=(((tN B U L0 n).1.getD n []).getD 0 0).toNat) (p:=(phs B U (((tN B U L0 n).1.getD n []).getD 0 0).toNat (((tN B U L0 n).1.getD n []).getD 1 0)).1) (q:=((tN B U L0 n).1,(tN B U L0 n).2.2)) (2^B.length)
   simp only[List.length_append,List.length_singleton,Nat.add_mul,Nat.one_mul] at h1 ⊢
   omega
  ·exact ih
theorem trR_bnd {x:Exq}(h:trOk x):1≤(trR x).acc.length∧(trR x).acc.length≤64∧(trR x).init.length≤32∧(trR x).edges.length≤32*(trR x).acc.length:=by
 rw[trR,if_pos h]
 have rat:=tN_ratio (B:=basics x) (U:=unt (basics x) (basics x).length) (L0:=ini0 (basics x) (push x false) (2^(basics x).length)) 64
 have h5:=h.1.2
 have hc:=p2le h5
 have hl0:=ini0_len (B:=basics x) (g:=push x false) (2^(basics x).length)
 have inv:=tN_inv (B:=basics x) (U:=unt (basics x) (basics x).length) (L0:=ini0 (basics x) (push x false) (2^(basics x).length)) (ini0_ok (Nat.le_refl _)) hl0 64
 have ac1:=tN_acc1 (B:=basics x) (U:=unt (basics x) (basics x).length) (L0:=ini0 (basics x) (push x false) (2^(basics x).length)) 64 (by omega)
 have h64:=h.2
 have e:trT x=tN (basics x) (unt (basics x) (basics x).length) (ini0 (basics x) (push x false) (2^(basics x).length)) 64:=rfl
 have e2:trA x=⟨upto (ini0 (basics x) (push x false) (2^(basics x).length)).length,if (trT x).1=[] then [false] else (trT x).2.1,(trT x).2.2⟩:=rfl
 rw[← e] at inv ac1 rat
 rw[e2]
 generalize ini0 (basics x) (push x false) (2^(basics x).length)=I at *
 generalize trT x=T at *
 have i1:=inv.al
 have i2:=inv.el
 have hm:64*2^(basics x).length≤64*32:=Nat.mul_le_mul_left 64 hc
 refine⟨?_,?_,?_,?_⟩
 ·simp only
  split
  ·simp
  ·rename_i hne
   exact ac1 hne h64
 ·simp only
  split
  ·simp
  ·omega
 ·simp[upto];omega
 ·have hm2:T.2.1.length*2^(basics x).length≤T.2.1.length*32:=Nat.mul_le_mul_left _ hc
  simp only
  split
  ·rename_i he
   have h0:T.2.1.length=0:=by
    have:=i1.2
    rw[he] at this
    simpa using this
   rw[h0] at hm2 rat
   simp at rat
   simp[rat]
  ·omega
end Fm
structure ASz (x:Aut) (n:Nat):Prop where
 i:x.init.length≤n
 a:x.acc.length≤n
 e:x.edges.length≤n
theorem and_ok {a b:Int}:I64 (andI .i64 a b):=by
 unfold andI
 have h:∀z:Int,I64 (IntKind.i64.wrap z):=fun z=>by
  have:IntKind.i64.wrap z=if z%18446744073709551616≥9223372036854775808 then z%18446744073709551616-18446744073709551616 else z%18446744073709551616:=by
   simp[IntKind.wrap,IntKind.signed,IntKind.bits]
  rw[this]
  split
  ·exact⟨by omega,by omega⟩
  ·exact⟨by omega,by omega⟩
 exact h _
set_option maxHeartbeats 1000000 in
theorem c_l7Automaton {b:Nat}{sl:Value}{l:List (BitVec 8)}{g h:Heap}{Γ:List HP}{p:Int}(R:Rep g sl l) (H:HS g (rb b sl p::Γ) h) (hp:0≤p) (hp2:p≤800000000000) :
  CallE Tryz.prog fn_spec_l7Automaton [.pointer (some ⟨b,0,none⟩)] h (fun u h'=>∃(a:Aut) (p':Int),HS g (ow u a::rb b sl p'::Γ) h'∧1≤a.acc.length∧a.acc.length≤16∧(ASz a 2048∧a.edges.length≤32*a.acc.length)∧p≤p'∧p'≤p+1000):=by
 refine CallE.gen fun k hk=>EN_spec_l7Automaton rfl ?_
 have main:∀{h:Heap}{p1:Int}{q2 q3:Option Value},HS g (rb b sl p1::Γ) h→p≤p1→p1≤p+200→K29_34.wp Tryz.prog (retQ [(1,some (some 3))] k) [some (.pointer (some ⟨b,0,none⟩)),some (.agg #[.slice none 0 0,.slice none 0 0,.slice none 0 0]),q2,q3,none,none,none,none,none] h:=by
  intro h p1 q2 q3 H hp3 hp4
  simp -implicitDefEqProofs (disch:=omega)[wrap64]
  refine H.bls [(3:Int),2,4,1,5] rfl rfl (okL (by decide)) (by decide) fun v h1 H=>?_
  simp -implicitDefEqProofs (disch:=omega)[wrap64]
  refine (c_num R H (by omega) (by omega) (by simp)).go ?_
  rintro _ h2 ⟨r,rfl,orr,hr,H⟩
  obtain⟨n,rfl,hn1,hn5⟩:∃n:Nat,r=n∧1≤n∧n≤5:=by
   simp at hr
   exact⟨r.toNat,by omega,by omega,by omega⟩
  simp -implicitDefEqProofs (disch:=omega)[wrap64]
  refine HS.mks (bytes:=1) (α:=Bool) (z:=false) (n:=n) (c:=n) H rfl rfl own_false (Nat.le_refl _) (by omega) (by omega) fun o h3 H=>?_
  simp -implicitDefEqProofs (disch:=first|omega|(simp only[LnZ];omega))[wrap64,setC,H.rep.cells,H.rep.one]
  refine wp_count n (fun i e h'=>∃(li:Value) (I:List Int) (y:List Bool) (p':Int),e=[some (.pointer (some ⟨b,0,none⟩)),some (.agg #[.slice none 0 0,.slice none 0 0,.slice none 0 0]),none,none,some (.int .i64 n),some (.agg #[li,o,.slice none 0 0]),some (.int .i64 i),none,none]∧HS g (ow o y::ow li I::rb b sl p'::Γ) h'∧y.length=n∧I.length≤i∧p≤p'∧p'≤p+201+3*i) ⟨.slice none 0 0,[],_,_,by simp,H.nil_ow.sw1,by simp,by simp,by omega,by omega⟩ ?_
  clear H
  rintro J i _ h4 hJ hi ⟨li,I,y,p',rfl,H,hyl,hIl,hp5,hp6⟩
  simp -implicitDefEqProofs (disch:=omega)[wrap64]
  refine IteW.mk (fun hlt=>?_) (fun hge=>?_)
  ·have hin:i<n:=by omega
   simp -implicitDefEqProofs (disch:=omega)[wrap64]
   refine (c_pick (n:=3) R H.sw2 (by omega) (by omega) i64c).go ?_
   rintro _ h5 ⟨r1,rfl,o1,z1,y1,H⟩
   simp -implicitDefEqProofs (disch:=first|omega|(simp only[LnZ];omega))[wrap64,H.sw1.rep.B]
   refine H.sw1.storeF (decide (r1=0)) (i:=i) (by omega) rfl rfl trivial rfl fun h6 H=>?_
   simp -implicitDefEqProofs (disch:=omega)[wrap64]
   have H:=H.sw1
   by_cases i0:i=0
   ·subst i0
    simp -implicitDefEqProofs (disch:=omega)[wrap64]
    refine (c_pick (n:=12) R H (by omega) (by omega) i64c).go ?_
    rintro _ h7 ⟨r2,rfl,o2,z2,y2,H⟩
    by_cases c2:0<r2
    ·simp -implicitDefEqProofs (disch:=first|omega|(simp only[LnZ];omega))[wrap64,c2]
     simp -implicitDefEqProofs (disch:=first|omega|(simp only[LnZ];omega))[wrap64,setC]
     refine HS.app1 (bytes:=8) H.sw2 (0:Int) rfl rfl rfl ⟨by omega,by omega⟩ rfl rfl (by omega) (by omega) fun li' h8 H=>?_
     simp -implicitDefEqProofs (disch:=first|omega|(simp only[LnZ];omega))[wrap64,setC,H.rep.cells,H.rep.one]
     exact hJ _ _ hin ⟨li',_,_,_,by simp,H.sw2,by simp[hyl],by rw[List.length_append];simp only[List.length_singleton];omega,by omega,by push_cast;omega⟩
    ·simp -implicitDefEqProofs (disch:=first|omega|(simp only[LnZ];omega))[wrap64,c2]
     refine (c_pick (n:=5) R H (by omega) (by omega) i64c).go ?_
     rintro _ h7 ⟨r3,rfl,o3,z3,y3,H⟩
     by_cases c3:r3=0
     ·simp -implicitDefEqProofs (disch:=first|omega|(simp only[LnZ];omega))[wrap64,c3]
      simp -implicitDefEqProofs (disch:=first|omega|(simp only[LnZ];omega))[wrap64,setC]
      refine HS.app1 (bytes:=8) H.sw2 (0:Int) rfl rfl rfl ⟨by omega,by omega⟩ rfl rfl (by omega) (by omega) fun li' h8 H=>?_
      simp -implicitDefEqProofs (disch:=first|omega|(simp only[LnZ];omega))[wrap64,setC,H.rep.cells,H.rep.one]
      exact hJ _ _ hin ⟨li',_,_,_,by simp,H.sw2,by simp[hyl],by rw[List.length_append];simp only[List.length_singleton];omega,by omega,by push_cast;omega⟩
     ·simp -implicitDefEqProofs (disch:=first|omega|(simp only[LnZ];omega))[wrap64,c3]
      exact hJ _ _ hin ⟨li,_,_,_,by simp,H.sw1.under fun _ H=>H.sw1,by simp[hyl],by omega,by omega,by push_cast;omega⟩
   ·simp -implicitDefEqProofs (disch:=first|omega|(simp only[LnZ];omega))[wrap64,i0]
    refine (c_pick (n:=5) R H (by omega) (by omega) i64c).go ?_
    rintro _ h7 ⟨r3,rfl,o3,z3,y3,H⟩
    by_cases c3:r3=0
    ·simp -implicitDefEqProofs (disch:=first|omega|(simp only[LnZ];omega))[wrap64,c3]
     simp -implicitDefEqProofs (disch:=first|omega|(simp only[LnZ];omega))[wrap64,setC]
     refine HS.app1 (bytes:=8) H.sw2 (i:Int) rfl rfl rfl ⟨by omega,by omega⟩ rfl rfl (by omega) (by omega) fun li' h8 H=>?_
     simp -implicitDefEqProofs (disch:=first|omega|(simp only[LnZ];omega))[wrap64,setC,H.rep.cells,H.rep.one]
     exact hJ _ _ hin ⟨li',_,_,_,by simp,H.sw2,by simp[hyl],by rw[List.length_append];simp only[List.length_singleton];omega,by omega,by push_cast;omega⟩
    ·simp -implicitDefEqProofs (disch:=first|omega|(simp only[LnZ];omega))[wrap64,c3]
     exact hJ _ _ hin ⟨li,_,_,_,by simp,H.sw1.under fun _ H=>H.sw1,by simp[hyl],by omega,by omega,by push_cast;omega⟩
  obtain rfl:i=n:=by omega
  simp -implicitDefEqProofs (disch:=omega)[wrap64]
  refine H.bls [(6:Int),4,8,3,10] rfl rfl (okL (by decide)) (by decide) fun v h5 H=>?_
  simp -implicitDefEqProofs (disch:=omega)[wrap64]
  refine (c_num R (H.under fun _ H=>H.sw2) (by omega) (by omega) (by simp)).go ?_
  rintro _ h6 ⟨r,rfl,orr,hr,H⟩
  have hr10:0≤r∧r≤10:=by simp at hr;omega
  simp -implicitDefEqProofs (disch:=omega)[wrap64]
  refine wp_while (σ:=Nat) (fun j e h'=>∃(ed:Value) (E:List Tr) (p2:Int),e=[some (.pointer (some ⟨b,0,none⟩)),some (.agg #[.slice none 0 0,.slice none 0 0,.slice none 0 0]),none,none,some (.int .i64 i),some (.agg #[li,o,ed]),none,some (.int .i64 (r-j)),none]∧HS g (rb b sl p2::ow ed E::ow o y::ow li I::Γ) h'∧E.length=j∧j≤10∧p≤p2∧p2≤p+300+6*j) (fun j=>11-j) 0 ⟨.slice none 0 0,[],_,by simp,H.nil_ow.sw1,rfl,by omega,by omega,by omega⟩ ?_
  clear H
  rintro J2 j _ h7 hJ2 ⟨ed,E,p2,rfl,H,hEl,hj,hp7,hp8⟩
  by_cases c2:(j:Int)<r
  ·simp -implicitDefEqProofs (disch:=first|omega|(simp only[LnZ];omega))[wrap64,c2]
   refine H.bls [(1:Int),3,0,2,7] rfl rfl (okL (by decide)) (by decide) fun v h8 H=>?_
   simp -implicitDefEqProofs (disch:=omega)[wrap64]
   refine (c_num R H (by omega) (by omega) (by simp)).go ?_
   rintro _ h9 ⟨ca,rfl,oca,hca,H⟩
   simp -implicitDefEqProofs (disch:=omega)[wrap64]
   refine (c_pick (n:=i) R H (by omega) (by omega) ⟨by omega,by omega⟩).go ?_
   rintro _ h10 ⟨r1,rfl,o1,z1,y1,H⟩
   simp -implicitDefEqProofs (disch:=omega)[wrap64]
   refine (c_pick (n:=8) R H (by omega) (by omega) i64c).go ?_
   rintro _ h11 ⟨r2,rfl,o2,z2,y2,H⟩
   simp -implicitDefEqProofs (disch:=omega)[wrap64]
   refine (c_pick (n:=i) R H (by omega) (by omega) ⟨by omega,by omega⟩).go ?_
   rintro _ h12 ⟨r3,rfl,o3,z3,y3,H⟩
   simp -implicitDefEqProofs (disch:=first|omega|(simp only[LnZ];omega))[wrap64,setC]
   refine HS.app1 (bytes:=32) H.sw1 (⟨r1,ca,andI .i64 r2 ca,r3⟩:Tr) rfl rfl rfl (Tr.ok_iff.2 ⟨o1,oca,and_ok,o3⟩) rfl rfl (by omega) (by omega) fun ed' h13 H=>?_
   simp -implicitDefEqProofs (disch:=first|omega|(simp only[LnZ];omega))[wrap64,setC,H.rep.cells,H.rep.one]
   exact hJ2 (j+1) _ _ (by omega) ⟨ed',_,_,by simp;omega,H.sw1,by simp[hEl],by omega,by omega,by push_cast;omega⟩
  ·simp -implicitDefEqProofs (disch:=first|omega|(simp only[LnZ];omega))[wrap64,c2,setC,H.sw1.rep.one,H.sw2.rep.one,H.sw3.rep.one]
   have H2:HS g (ow li I::ow o y::ow ed E::rb b sl p2::Γ) h7:=(H.sw3.under fun _ H=>H.sw2.under fun _ H=>H.sw1)
   exact RetK.keep (hk _ _ ⟨⟨I,y,E⟩,p2,HS.mkAut (a:=⟨I,y,E⟩) H2,by simp only;omega,by simp only;omega,⟨⟨by simp only;omega,by simp only;omega,by simp only;omega⟩,by simp only;omega⟩,by omega,by omega⟩)
 simp -implicitDefEqProofs (disch:=omega)[wrap64]
 refine (c_pick (n:=3) R H (by omega) (by omega) i64c).go ?_
 rintro _ h1 ⟨r0,rfl,o0,z0,y0,H⟩
 by_cases c0:r0=0
 case neg=>
  have M:=fun q2 q3=>main (q2:=q2) (q3:=q3) H (by omega) (by omega)
  simp -implicitDefEqProofs (disch:=omega)[wrap64] at M
  simp -implicitDefEqProofs (disch:=first|omega|(simp only[LnZ];omega))[wrap64,c0]
  exact M _ _
 simp -implicitDefEqProofs (disch:=first|omega|(simp only[LnZ];omega))[wrap64,c0]
 refine (c_l5Formula R H (by omega) (by omega)).go ?_
 rintro _ h2 ⟨y,p1,H,hp3,hp4⟩
 simp -implicitDefEqProofs (disch:=omega)[wrap64]
 refine (c_spec_TranslateFormula H.rep).go ?_
 rintro _ h3 ⟨w,rfl,G⟩
 have H:=G.app H
 have FA:=H.rep.aAut
 have RA:=H.rep
 have H:=H.sw2
 have Hd:HS g (rb b sl p1::Γ) h3:=H.under fun _ H=>H.drop.drop
 have M:=fun q2 q3=>main (q2:=q2) (q3:=q3) Hd (by omega) (by omega)
 simp -implicitDefEqProofs (disch:=omega)[wrap64] at M
 by_cases q:Fm.trOk y
 case neg=>
  simp -implicitDefEqProofs (disch:=first|omega|(simp only[LnZ];omega))[wrap64,q,FA,setC]
  exact M _ _
 obtain⟨b1,b2,b3,b4⟩:=Fm.trR_bnd q
 obtain⟨w1,w2,w3,rfl,HA⟩:=H.sw1.unAut
 have hO1:=HA.rep.one
 have hO2:=HA.sw1.rep.one
 have hO3:=HA.sw2.rep.one
 by_cases q16:((Fm.trR y).acc.length:Int)≤16
 ·simp -implicitDefEqProofs (disch:=first|omega|(simp only[LnZ];omega))[wrap64,q,FA,setC,hO1,hO2,hO3,HA.sw1.rep.len,q16]
  exact RetK.keep (hk _ _ ⟨_,p1,(H.sw1.under fun _ H=>H.under fun _ H=>H.drop),b1,by omega,⟨⟨by omega,by omega,by omega⟩,b4⟩,by omega,by omega⟩)
 ·simp -implicitDefEqProofs (disch:=first|omega|(simp only[LnZ];omega))[wrap64,q,FA,setC,hO1,hO2,hO3,HA.sw1.rep.len,q16]
  exact M _ _
set_option maxHeartbeats 1000000 in
theorem c_l7Mutate {b:Nat}{sl v:Value}{l:List (BitVec 8)}{g h:Heap}{Γ:List HP}{p:Int}{a:Aut}(R:Rep g sl l) (Ra:Rep g v a) (hs:ASz a 16384) (H:HS g (rb b sl p::Γ) h) (hp:0≤p) (hp2:p≤900000000000) :
  CallE Tryz.prog fn_spec_l7Mutate [.pointer (some ⟨b,0,none⟩),v] h (fun u h'=>∃(a':Aut) (p':Int),HS g (ow u a'::rb b sl p'::Γ) h'∧(ASz a' 16385∧a'.acc.length≤a.acc.length∧a'.edges.length≤a.edges.length)∧p≤p'∧p'≤p+10):=by
 obtain⟨v1,v2,v3,rfl,R1,R2,R3⟩:=Rep_Aut.1 Ra
 have s1:=hs.i
 have s2:=hs.a
 have s3:=hs.e
 refine CallE.gen fun k hk=>EN_spec_l7Mutate rfl ?_
 simp -implicitDefEqProofs (disch:=omega)[wrap64]
 refine H.appPL (α:=Int) (l2:=a.init) rfl rfl (R1.on H) rfl rfl (by omega) fun u1 h1 H=>?_
 simp -implicitDefEqProofs (disch:=omega)[wrap64]
 refine H.appPL (α:=Bool) (l2:=a.acc) rfl rfl (R2.on H) rfl rfl (by omega) fun u2 h2 H=>?_
 simp -implicitDefEqProofs (disch:=omega)[wrap64]
 refine H.appPL (α:=Tr) (l2:=a.edges) rfl rfl (R3.on H) rfl rfl (by omega) fun u3 h3 H=>?_
 have c1:=H.sw2.rep.cells
 have c2:=H.sw1.rep.cells
 have c3:=H.rep.cells
 have o1:=H.sw2.rep.one
 have o2:=H.sw1.rep.one
 have o3:=H.rep.one
 simp -implicitDefEqProofs (disch:=first|omega|(simp only[LnZ];omega))[wrap64,setC,c1,c2,c3,o1,o2,o3]
 refine (c_pick (n:=40) R H.sw3 (by omega) (by omega) i64c).go ?_
 rintro _ h4 ⟨r,rfl,orr,z0,y0,H⟩
 have done:∀{h:Heap}{q:Int}{I:List Int}{A:List Bool}{E:List Tr}{w1 w2 w3:Value},HS g (rb b sl q::ow w3 E::ow w2 A::ow w1 I::Γ) h→I.length≤16385→A.length≤a.acc.length→E.length≤a.edges.length→p≤q→q≤p+10→k (.agg #[w1,w2,w3]) h:=fun {h q I A E w1 w2 w3} H e1 e2 e3 e4 e5=>by
  have H2:HS g (ow w1 I::ow w2 A::ow w3 E::rb b sl q::Γ) h:=(H.sw3.under fun _ H=>H.sw2.under fun _ H=>H.sw1)
  exact hk _ _ ⟨⟨I,A,E⟩,q,HS.mkAut (a:=⟨I,A,E⟩) H2,⟨⟨e1,by simp only;omega,by simp only;omega⟩,e2,e3⟩,e4,e5⟩
 by_cases q0:r=0
 ·simp -implicitDefEqProofs (disch:=first|omega|(simp only[LnZ];omega))[wrap64,q0,setC,o1,o2,o3]
  refine H.bls [(0:Int),-1,64,3] rfl rfl (okL (by decide)) (by decide) fun w h5 H=>?_
  simp -implicitDefEqProofs (disch:=omega)[wrap64]
  refine (c_num R H (by omega) (by omega) (by simp)).go ?_
  rintro _ h6 ⟨r2,rfl,o,_,H⟩
  simp -implicitDefEqProofs (disch:=first|omega|(simp only[LnZ];omega))[wrap64,setC]
  refine HS.app1 (bytes:=8) H.sw3 r2 rfl rfl rfl o rfl rfl (by omega) (by omega) fun u1' h7 H=>?_
  simp -implicitDefEqProofs (disch:=first|omega|(simp only[LnZ];omega))[wrap64,setC,H.rep.cells,H.rep.one,o1,o2,o3]
  have H2:HS g (rb b sl (p+1+1)::ow u3 a.edges::ow u2 a.acc::ow u1' (a.init++[r2])::Γ) h7:=H.bk3
  exact RetK.keep (done H2 (by simp;omega) (by omega) (by omega) (by omega) (by omega))
 by_cases q1:r=1
 ·by_cases ql:(0:Int)<a.edges.length
  case neg=>
   have ql':a.edges=[]:=List.length_eq_zero_iff.1 (by omega)
   simp -implicitDefEqProofs (disch:=first|omega|(simp only[LnZ];omega))[wrap64,q0,q1,setC,o1,o2,o3,H.sw1.rep.len,ql,ql']
   exact RetK.keep (done H (by omega) (by omega) (by omega) (by omega) (by omega))
  have ql':0<a.edges.length:=by omega
  simp -implicitDefEqProofs (disch:=first|omega|(simp only[LnZ];omega))[wrap64,q0,q1,setC,o1,o2,o3,H.sw1.rep.len,ql,ql']
  refine H.bls [(8:Int),-1,7] rfl rfl (okL (by decide)) (by decide) fun w h5 H=>?_
  simp -implicitDefEqProofs (disch:=omega)[wrap64]
  refine (c_num R H (by omega) (by omega) (by simp)).go ?_
  rintro _ h6 ⟨r2,rfl,o,_,H⟩
  have hok:=Tr.ok_iff.1 (H.sw1.rep.okF (i:=0) (by omega))
  simp -implicitDefEqProofs (disch:=first|omega|(simp only[LnZ];omega))[wrap64,H.sw1.rep.xTr,H.sw1.rep.fTr]
  refine HS.storeFld (α:=Tr) (i:=0) H.sw1 ⟨a.edges[0].frm,a.edges[0].care,r2,a.edges[0].to⟩ (by omega) rfl rfl rfl rfl (by decide) rfl (Tr.ok_iff.2 ⟨hok.frm,hok.care,o,hok.to⟩) fun h7 H=>?_
  simp -implicitDefEqProofs (disch:=first|omega|(simp only[LnZ];omega))[wrap64,setC,o1,o2,o3]
  exact RetK.keep (done H.sw1 (by omega) (by omega) (by simp) (by omega) (by omega))
 by_cases q2:r=2
 ·by_cases ql:(0:Int)<a.edges.length
  case neg=>
   have ql':a.edges=[]:=List.length_eq_zero_iff.1 (by omega)
   simp -implicitDefEqProofs (disch:=first|omega|(simp only[LnZ];omega))[wrap64,q0,q1,q2,setC,o1,o2,o3,H.sw1.rep.len,ql,ql']
   exact RetK.keep (done H (by omega) (by omega) (by omega) (by omega) (by omega))
  have ql':0<a.edges.length:=by omega
  simp -implicitDefEqProofs (disch:=first|omega|(simp only[LnZ];omega))[wrap64,q0,q1,q2,setC,o1,o2,o3,H.sw1.rep.len,ql,ql']
  refine H.bls [(-1:Int),0,64,9223372036854775807] rfl rfl (okL (by decide)) (by decide) fun w h5 H=>?_
  simp -implicitDefEqProofs (disch:=omega)[wrap64]
  refine (c_num R H (by omega) (by omega) (by simp)).go ?_
  rintro _ h6 ⟨r2,rfl,o,_,H⟩
  have hok:=Tr.ok_iff.1 (H.sw1.rep.okF (i:=0) (by omega))
  simp -implicitDefEqProofs (disch:=first|omega|(simp only[LnZ];omega))[wrap64,H.sw1.rep.xTr,H.sw1.rep.fTr]
  refine HS.storeFld (α:=Tr) (i:=0) H.sw1 ⟨a.edges[0].frm,a.edges[0].care,a.edges[0].value,r2⟩ (by omega) rfl rfl rfl rfl (by decide) rfl (Tr.ok_iff.2 ⟨hok.frm,hok.care,hok.value,o⟩) fun h7 H=>?_
  simp -implicitDefEqProofs (disch:=first|omega|(simp only[LnZ];omega))[wrap64,setC,o1,o2,o3]
  exact RetK.keep (done H.sw1 (by omega) (by omega) (by simp) (by omega) (by omega))
 by_cases q3:r=3
 ·simp -implicitDefEqProofs (disch:=first|omega|(simp only[LnZ];omega))[wrap64,q0,q1,q2,q3,setC]
  exact RetK.keep (hk _ _ ⟨⟨[],[],[]⟩,p+1,zero_Aut (H.under fun _ H=>H.drop.drop.drop),⟨⟨by simp,by simp,by simp⟩,by simp,by simp⟩,by omega,by omega⟩)
 by_cases q4:r=4
 ·by_cases ql:(0:Int)<a.edges.length
  case neg=>
   have ql':a.edges=[]:=List.length_eq_zero_iff.1 (by omega)
   simp -implicitDefEqProofs (disch:=first|omega|(simp only[LnZ];omega))[wrap64,q0,q1,q2,q3,q4,setC,o1,o2,o3,H.sw1.rep.len,ql,ql']
   exact RetK.keep (done H (by omega) (by omega) (by omega) (by omega) (by omega))
  have ql':0<a.edges.length:=by omega
  obtain⟨n,hn⟩:∃n:Nat,(a.edges.length:Int)-1=n:=⟨a.edges.length-1,by omega⟩
  have hnl:n<a.edges.length:=by omega
  simp -implicitDefEqProofs (disch:=first|omega|(simp only[LnZ];omega))[wrap64,q0,q1,q2,q3,q4,setC,o1,o2,o3,H.sw1.rep.len,ql,ql',hn]
  refine H.bls [(8:Int),-1,0] rfl rfl (okL (by decide)) (by decide) fun w h5 H=>?_
  simp -implicitDefEqProofs (disch:=omega)[wrap64]
  refine (c_num R H (by omega) (by omega) (by simp)).go ?_
  rintro _ h6 ⟨r2,rfl,o,_,H⟩
  have hok:=Tr.ok_iff.1 (H.sw1.rep.okF (i:=n) (by omega))
  simp -implicitDefEqProofs (disch:=first|omega|(simp only[LnZ];omega))[wrap64,H.sw1.rep.xTr,H.sw1.rep.fTr]
  refine HS.storeFld (α:=Tr) (i:=n) H.sw1 ⟨a.edges[n].frm,r2,a.edges[n].value,a.edges[n].to⟩ (by omega) rfl rfl rfl rfl (by decide) rfl (Tr.ok_iff.2 ⟨hok.frm,o,hok.value,hok.to⟩) fun h7 H=>?_
  simp -implicitDefEqProofs (disch:=first|omega|(simp only[LnZ];omega))[wrap64,setC,o1,o2,o3]
  exact RetK.keep (done H.sw1 (by omega) (by omega) (by simp) (by omega) (by omega))
 simp -implicitDefEqProofs (disch:=first|omega|(simp only[LnZ];omega))[wrap64,q0,q1,q2,q3,q4,setC,o1,o2,o3]
 exact RetK.keep (done H (by omega) (by omega) (by omega) (by omega) (by omega))
theorem c_l6Word {b:Nat}{sl:Value}{l:List (BitVec 8)}{g h:Heap}{Γ:List HP}{p:Int}{n:Nat}(R:Rep g sl l) (H:HS g (rb b sl p::Γ) h) (hp:0≤p) (hp2:p≤900000000000) (hn:n≤1000) :
  CallE Tryz.prog fn_spec_l6Word [.pointer (some ⟨b,0,none⟩),.int .i64 n] h (fun u h'=>∃(W:List Int) (p':Int),HS g (ow u W::rb b sl p'::Γ) h'∧W.length=n∧p≤p'∧p'≤p+2*n):=by
 refine CallE.gen fun k hk=>EN_spec_l6Word rfl ?_
 simp -implicitDefEqProofs (disch:=omega)[wrap64]
 refine H.bls0 Int fun o h1 H=>?_
 simp -implicitDefEqProofs (disch:=omega)[wrap64]
 refine wp_count n (fun i e h'=>∃(o:Value) (W:List Int) (p':Int),e=[some (.pointer (some ⟨b,0,none⟩)),some (.int .i64 n),none,some o,some (.int .i64 i)]∧HS g (ow o W::rb b sl p'::Γ) h'∧W.length=i∧p≤p'∧p'≤p+2*i) ⟨o,[],p,by simp,H,rfl,by omega,by omega⟩ ?_
 clear H
 rintro J i _ h2 hJ hi ⟨o,W,p',rfl,H,hW,h3,h4⟩
 simp -implicitDefEqProofs (disch:=omega)[wrap64]
 refine IteW.mk (fun hlt=>?_) (fun hge=>?_)
 ·have hin:i<n:=by omega
  simp -implicitDefEqProofs (disch:=omega)[wrap64]
  refine H.bls [(0:Int),1,2,3,1,0,5,4,7] rfl rfl (okL (by decide)) (by decide) fun v h5 H=>?_
  simp -implicitDefEqProofs (disch:=omega)[wrap64]
  refine (c_num R (H.under fun _ H=>H.sw1) (by omega) (by omega) (by simp)).go ?_
  rintro _ h6 ⟨r,rfl,o1,_,H⟩
  simp -implicitDefEqProofs (disch:=first|omega|(simp only[LnZ];omega))[wrap64,setC]
  refine HS.app1 (bytes:=8) H.sw1 r rfl rfl rfl o1 rfl rfl (by omega) (by omega) fun o' h7 H=>?_
  simp -implicitDefEqProofs (disch:=omega)[wrap64]
  exact hJ _ _ hin ⟨o',_,_,by simp,H,by simp[hW],by omega,by push_cast;omega⟩
 obtain rfl:i=n:=by omega
 simp -implicitDefEqProofs (disch:=omega)[wrap64]
 exact RetK.keep (hk _ _ ⟨W,p',H,hW,h3,h4⟩)
theorem c_l6Lasso {b:Nat}{sl:Value}{l:List (BitVec 8)}{g h:Heap}{Γ:List HP}{p:Int}(R:Rep g sl l) (H:HS g (rb b sl p::Γ) h) (hp:0≤p) (hp2:p≤800000000000) :
  CallE Tryz.prog fn_spec_l6Lasso [.pointer (some ⟨b,0,none⟩)] h (fun u h'=>∃(x:Las) (p':Int),HS g (ow u x::rb b sl p'::Γ) h'∧x.stem.length≤5∧1≤x.loop.length∧x.loop.length≤8∧p≤p'∧p'≤p+50):=by
 refine CallE.gen fun k hk=>EN_spec_l6Lasso rfl ?_
 simp -implicitDefEqProofs (disch:=omega)[wrap64]
 refine H.bls [(2:Int),0,3,1,5] rfl rfl (okL (by decide)) (by decide) fun v h1 H=>?_
 simp -implicitDefEqProofs (disch:=omega)[wrap64]
 refine (c_num R H (by omega) (by omega) (by simp)).go ?_
 rintro _ h2 ⟨r,rfl,orr,hr,H⟩
 obtain⟨n,rfl,hn5⟩:∃n:Nat,r=n∧n≤5:=by
  simp at hr
  exact⟨r.toNat,by omega,by omega⟩
 simp -implicitDefEqProofs (disch:=omega)[wrap64]
 refine (c_l6Word R H (by omega) (by omega) (by omega)).go ?_
 rintro s1 h3 ⟨S,p1,H,hS,h4,h5⟩
 simp -implicitDefEqProofs (disch:=omega)[wrap64]
 refine H.bls [(2:Int),1,3,4] rfl rfl (okL (by decide)) (by decide) fun v h6 H=>?_
 simp -implicitDefEqProofs (disch:=omega)[wrap64]
 refine (c_num R (H.under fun _ H=>H.sw1) (by omega) (by omega) (by simp)).go ?_
 rintro _ h7 ⟨r,rfl,orr,hr,H⟩
 obtain⟨m,rfl,hm1,hm4⟩:∃n:Nat,r=n∧1≤n∧n≤4:=by
  simp at hr
  exact⟨r.toNat,by omega,by omega,by omega⟩
 simp -implicitDefEqProofs (disch:=omega)[wrap64]
 refine (c_l6Word R H (by omega) (by omega) (by omega)).go ?_
 rintro s2 h8 ⟨L,p2,H,hL,h9,h10⟩
 have o2:=H.rep.one
 have c2:=H.rep.cells
 have o1:=H.sw2.rep.one
 have c1:=H.sw2.rep.cells
 simp -implicitDefEqProofs (disch:=first|omega|(simp only[LnZ];omega))[wrap64,setC,o1,o2,c1,c2]
 refine (c_pick (n:=4) R H.sw1 (by omega) (by omega) i64c).go ?_
 rintro _ h11 ⟨r,rfl,o3,z3,y3,H⟩
 by_cases q:r=0
 ·simp -implicitDefEqProofs (disch:=first|omega|(simp only[LnZ];omega))[wrap64,q,setC,o1,o2,c1,c2]
  refine H.appPL (α:=Int) (l2:=L) rfl rfl H.sw1.rep rfl rfl (by omega) fun u1 h12 H=>?_
  simp -implicitDefEqProofs (disch:=first|omega|(simp only[LnZ];omega))[wrap64,setC,o1,o2,c1,c2]
  refine HS.appL (bytes:=8) (l2:=L) H rfl rfl H.sw2.rep rfl rfl (by omega) (by omega) fun u2 h13 H=>?_
  have o4:=H.rep.one
  have c4:=H.rep.cells
  simp -implicitDefEqProofs (disch:=first|omega|(simp only[LnZ];omega))[wrap64,setC,o1,o2,o4,c1,c2,c4]
  have H2:HS g (ow s1 S::ow u2 (L++L)::rb b sl (p2+1)::Γ) h13:=(H.under fun _ H=>H.under fun _ H=>H.drop).sw2
  exact RetK.keep (hk _ _ ⟨⟨S,L++L⟩,_,HS.mkLas (a:=⟨S,L++L⟩) H2,by simp only;omega,by simp only[List.length_append];omega,by simp only[List.length_append];omega,by omega,by omega⟩)
 ·simp -implicitDefEqProofs (disch:=first|omega|(simp only[LnZ];omega))[wrap64,q,setC,o1,o2,c1,c2]
  have H2:HS g (ow s1 S::ow s2 L::rb b sl (p2+1)::Γ) h11:=H.sw2.under fun _ H=>H.sw1
  exact RetK.keep (hk _ _ ⟨⟨S,L⟩,_,HS.mkLas (a:=⟨S,L⟩) H2,by simp only;omega,by simp only;omega,by simp only;omega,by omega,by omega⟩)
set_option maxHeartbeats 1000000 in
theorem c_l6Mutate {b:Nat}{sl v:Value}{l:List (BitVec 8)}{g h:Heap}{Γ:List HP}{p:Int}{x:Las}(R:Rep g sl l) (Rx:Rep g v x) (h1:x.stem.length≤5) (h2:1≤x.loop.length) (h3:x.loop.length≤8) (H:HS g (rb b sl p::Γ) h) (hp:0≤p) (hp2:p≤900000000000) :
  CallE Tryz.prog fn_spec_l6Mutate [.pointer (some ⟨b,0,none⟩),v] h (fun u h'=>∃(x':Las) (p':Int),HS g (ow u x'::rb b sl p'::Γ) h'∧x'.stem.length≤100∧x'.loop.length≤100):=by
 obtain⟨v1,v2,rfl,R1,R2⟩:=Rep_Las.1 Rx
 refine CallE.gen fun k hk=>EN_spec_l6Mutate rfl ?_
 simp -implicitDefEqProofs (disch:=omega)[wrap64]
 refine H.appPL (α:=Int) (l2:=x.stem) rfl rfl (R1.on H) rfl rfl (by omega) fun u1 k1 H=>?_
 simp -implicitDefEqProofs (disch:=omega)[wrap64]
 refine H.appPL (α:=Int) (l2:=x.loop) rfl rfl (R2.on H) rfl rfl (by omega) fun u2 k2 H=>?_
 have c1:=H.sw1.rep.cells
 have c2:=H.rep.cells
 have o1:=H.sw1.rep.one
 have o2:=H.rep.one
 simp -implicitDefEqProofs (disch:=first|omega|(simp only[LnZ];omega))[wrap64,setC,c1,c2,o1,o2]
 refine (c_pick (n:=40) R H.sw2 (by omega) (by omega) i64c).go ?_
 rintro _ k4 ⟨r,rfl,orr,z0,y0,H⟩
 have done:∀{h:Heap}{q:Int}{S L:List Int}{w1 w2:Value},HS g (ow w1 S::ow w2 L::rb b sl q::Γ) h→S.length≤100→L.length≤100→k (.agg #[w1,w2]) h:=fun {h q S L w1 w2} H e1 e2=>hk _ _ ⟨⟨S,L⟩,q,HS.mkLas (a:=⟨S,L⟩) H,e1,e2⟩
 by_cases q0:r=0
 ·simp -implicitDefEqProofs (disch:=first|omega|(simp only[LnZ];omega))[wrap64,q0,setC,o1,o2]
  refine H.bls0 Int fun w k5 H=>?_
  have o3:=H.rep.one
  have c3:=H.rep.cells
  simp -implicitDefEqProofs (disch:=first|omega|(simp only[LnZ];omega))[wrap64,setC,o1,o3,c3]
  have H2:HS g (ow u1 x.stem::ow w []::rb b sl (p+1)::Γ) k5:=H.sw3.under fun _ H=>H.under fun _ H=>H.under fun _ H=>H.drop
  exact RetK.keep (done H2 (by omega) (by simp))
 by_cases q1:r=1
 ·simp -implicitDefEqProofs (disch:=first|omega|(simp only[LnZ];omega))[wrap64,q0,q1,setC,o1,o2]
  refine H.bls [(8:Int),-1,7,9223372036854775807] rfl rfl (okL (by decide)) (by decide) fun w k5 H=>?_
  simp -implicitDefEqProofs (disch:=omega)[wrap64]
  refine (c_num R H (by omega) (by omega) (by simp)).go ?_
  rintro _ k6 ⟨r2,rfl,o,_,H⟩
  have H:=H.sw1
  simp -implicitDefEqProofs (disch:=first|omega|(simp only[LnZ];omega))[wrap64,H.rep.I]
  refine H.storeF r2 (i:=0) (by omega) rfl rfl o rfl fun k7 H=>?_
  simp -implicitDefEqProofs (disch:=first|omega|(simp only[LnZ];omega))[wrap64,setC,o1,o2]
  have H2:HS g (ow u1 x.stem::ow u2 (x.loop.set 0 r2)::rb b sl (p+1+1)::Γ) k7:=H.sw2
  exact RetK.keep (done H2 (by omega) (by simp;omega))
 by_cases q2:r=2
 ·simp -implicitDefEqProofs (disch:=first|omega|(simp only[LnZ];omega))[wrap64,q0,q1,q2,setC,o1,o2]
  refine H.bls [(8:Int),0,-9223372036854775808] rfl rfl (okL (by decide)) (by decide) fun w k5 H=>?_
  simp -implicitDefEqProofs (disch:=omega)[wrap64]
  refine (c_num R H (by omega) (by omega) (by simp)).go ?_
  rintro _ k6 ⟨r2,rfl,o,_,H⟩
  simp -implicitDefEqProofs (disch:=first|omega|(simp only[LnZ];omega))[wrap64,setC]
  refine HS.app1 (bytes:=8) H.sw2 r2 rfl rfl rfl o rfl rfl (by omega) (by omega) fun w1 k7 H=>?_
  have o3:=H.rep.one
  have c3:=H.rep.cells
  simp -implicitDefEqProofs (disch:=first|omega|(simp only[LnZ];omega))[wrap64,setC,o3,c3,o2]
  have H2:HS g (ow w1 (x.stem++[r2])::ow u2 x.loop::rb b sl (p+1+1)::Γ) k7:=H.under fun _ H=>H.sw1
  exact RetK.keep (done H2 (by simp;omega) (by omega))
 by_cases q3:r=3
 ·simp -implicitDefEqProofs (disch:=first|omega|(simp only[LnZ];omega))[wrap64,q0,q1,q2,q3,setC,o1,o2]
  refine wp_while (σ:=Nat) (fun j e h'=>∃(w:Value) (S:List Int) (q:Int),e=[some (.pointer (some ⟨b,0,none⟩)),none,none,some (.agg #[.slice none 0 0,.slice none 0 0]),some (.agg #[w,u2]),none]∧HS g (ow w S::ow u2 x.loop::rb b sl q::Γ) h'∧S.length=x.stem.length+j∧S.length≤82∧p≤q∧q≤p+2+j) (fun j=>90-j) 0 ⟨u1,x.stem,_,by simp,H.sw2.under fun _ H=>H.sw1,by omega,by omega,by omega,by omega⟩ ?_
  clear H
  rintro J j _ k5 hJ ⟨w,S,q,rfl,H,hS,hS2,hq1,hq2⟩
  have o1:=H.rep.one
  have c1:=H.rep.cells
  simp -implicitDefEqProofs (disch:=first|omega|(simp only[LnZ];omega))[wrap64,H.rep.len]
  refine (c_pick (n:=2) R H.sw2 (by omega) (by omega) i64c).go ?_
  rintro _ k6 ⟨r2,rfl,o,z2,y2,H⟩
  by_cases c:(S.length:Int)<80+r2
  ·simp -implicitDefEqProofs (disch:=first|omega|(simp only[LnZ];omega))[wrap64,c,setC]
   refine HS.app1 (bytes:=8) H.sw1 (1:Int) rfl rfl rfl ⟨by omega,by omega⟩ rfl rfl (by omega) (by omega) fun w1 k7 H=>?_
   have o3:=H.rep.one
   have c3:=H.rep.cells
   simp -implicitDefEqProofs (disch:=first|omega|(simp only[LnZ];omega))[wrap64,setC,o3,c3]
   exact hJ (j+1) _ _ (by omega) ⟨w1,_,_,by simp,H.under fun _ H=>H.sw1,by simp;omega,by simp;omega,by omega,by push_cast;omega⟩
  ·simp -implicitDefEqProofs (disch:=first|omega|(simp only[LnZ];omega))[wrap64,c,setC,o1,o2]
   have H2:HS g (ow w S::ow u2 x.loop::rb b sl (q+1)::Γ) k6:=H.sw1.under fun _ H=>H.sw1
   exact RetK.keep (done H2 (by omega) (by omega))
 simp -implicitDefEqProofs (disch:=first|omega|(simp only[LnZ];omega))[wrap64,q0,q1,q2,q3,setC,o1,o2]
 have H2:HS g (ow u1 x.stem::ow u2 x.loop::rb b sl (p+1)::Γ) k4:=H.sw2.under fun _ H=>H.sw1
 exact RetK.keep (done H2 (by omega) (by omega))
theorem c_DrawAccepts {h:Heap}{v:Value}{l:List (BitVec 8)}(R:Rep h v l):CallE Tryz.prog fn_spec_DrawAccepts [v] h (fun u h'=>∃(u1 u2:Value) (a:Aut) (x:Las),u=.tuple #[u1,u2]∧h.le h'∧Rep h' u1 a∧Rep h' u2 x∧x.stem.length≤100∧x.loop.length≤100):=by
 refine CallE.gen fun k hk=>EN_spec_DrawAccepts rfl ?_
 simp -implicitDefEqProofs (disch:=omega)[wrap64]
 refine (c_l16Open R).go ?_
 rintro _ h1 ⟨b,sl,l',rfl,R',H⟩
 simp -implicitDefEqProofs (disch:=omega)[wrap64]
 refine (c_l7Automaton R' H (by omega) (by omega)).go ?_
 rintro w h2 ⟨a,p1,H,b1,b2,b3,b4,b5⟩
 obtain⟨g1,H1,H2⟩:=HS.rebase (Δ:=[rb b sl p1]) H.sw1
 have FA:=H.rep.aAut
 simp -implicitDefEqProofs (disch:=first|omega|(simp only[LnZ];omega))[wrap64,FA]
 refine (c_l7Mutate (R'.on H1) H1.rep ⟨by have:=b3.1.i;omega,by have:=b3.1.a;omega,by have:=b3.1.e;omega⟩ H2 (by omega) (by omega)).go ?_
 rintro u h3 ⟨a',p2,H3,c1,c2,c3⟩
 have H:=H3.app H1
 have FA2:=H3.rep.aAut
 simp -implicitDefEqProofs (disch:=first|omega|(simp only[LnZ];omega))[wrap64,FA2,setC]
 refine (c_l6Lasso R' H.sw1 (by omega) (by omega)).go ?_
 rintro y h4 ⟨x,p3,H,d1,d2,d3,d4,d5⟩
 have FX:=H.rep.aLas
 obtain⟨g2,K1,K2⟩:=HS.rebase (Δ:=[rb b sl p3]) H.sw1
 simp -implicitDefEqProofs (disch:=first|omega|(simp only[LnZ];omega))[wrap64,FX]
 refine (c_l6Mutate (R'.on K1) K1.rep d1 d2 d3 K2 (by omega) (by omega)).go ?_
 rintro z h5 ⟨x',p4,K3,e1,e2⟩
 have K:=K3.app K1
 have FX2:=K.rep.aLas
 have FA3:=K.sw3.rep.aAut
 simp -implicitDefEqProofs (disch:=first|omega|(simp only[LnZ];omega))[wrap64,FA3,FX2,setC]
 exact RetK.keep (hk _ _ ⟨u,z,a',x',rfl,K.base,K.sw3.rep,K.rep,e1,e2⟩)
theorem c_l12Letters {b:Nat}{sl:Value}{l:List (BitVec 8)}{g h:Heap}{Γ:List HP}{p:Int}(R:Rep g sl l) (H:HS g (rb b sl p::Γ) h) (hp:0≤p) (hp2:p≤800000000000) :
  CallE Tryz.prog fn_spec_l12Letters [.pointer (some ⟨b,0,none⟩)] h (fun u h'=>∃(W:List Int) (p':Int),HS g (ow u W::rb b sl p'::Γ) h'∧W.length≤300):=by
 refine CallE.gen fun k hk=>EN_spec_l12Letters rfl ?_
 simp -implicitDefEqProofs (disch:=omega)[wrap64]
 refine H.bls [(3:Int),2,4,1,0,6] rfl rfl (okL (by decide)) (by decide) fun v h1 H=>?_
 simp -implicitDefEqProofs (disch:=omega)[wrap64]
 refine (c_num R H (by omega) (by omega) (by simp)).go ?_
 rintro _ h2 ⟨r,rfl,orr,hr,H⟩
 obtain⟨n,rfl,hn5⟩:∃n:Nat,r=n∧n≤6:=by
  simp at hr
  exact⟨r.toNat,by omega,by omega⟩
 simp -implicitDefEqProofs (disch:=omega)[wrap64]
 refine (c_l6Word R H (by omega) (by omega) (by omega)).go ?_
 rintro s1 h3 ⟨S,p1,H,hS,h4,h5⟩
 simp -implicitDefEqProofs (disch:=omega)[wrap64]
 refine (c_pick (n:=40) R H.sw1 (by omega) (by omega) i64c).go ?_
 rintro _ h11 ⟨r,rfl,o3,z3,y3,H⟩
 by_cases q0:r=0
 ·simp -implicitDefEqProofs (disch:=first|omega|(simp only[LnZ];omega))[wrap64,q0]
  refine H.bls [(8:Int),-1,9223372036854775807] rfl rfl (okL (by decide)) (by decide) fun w k5 H=>?_
  simp -implicitDefEqProofs (disch:=omega)[wrap64]
  refine (c_num R H (by omega) (by omega) (by simp)).go ?_
  rintro _ k6 ⟨r2,rfl,o,_,H⟩
  simp -implicitDefEqProofs (disch:=first|omega|(simp only[LnZ];omega))[wrap64,setC]
  refine HS.app1 (bytes:=8) H.sw1 r2 rfl rfl rfl o rfl rfl (by omega) (by omega) fun w1 k7 H=>?_
  simp -implicitDefEqProofs (disch:=omega)[wrap64]
  exact RetK.keep (hk _ _ ⟨_,_,H,by simp;omega⟩)
 by_cases q1:r=1
 ·simp -implicitDefEqProofs (disch:=first|omega|(simp only[LnZ];omega))[wrap64,q0,q1]
  refine wp_while (σ:=Nat) (fun j e h'=>∃(w:Value) (T:List Int) (q:Int),e=[some (.pointer (some ⟨b,0,none⟩)),none,some w,none]∧HS g (ow w T::rb b sl q::Γ) h'∧T.length=S.length+j∧T.length≤202∧p≤q∧q≤p+200+j) (fun j=>300-j) 0 ⟨s1,S,_,by simp,H.sw1,by omega,by omega,by omega,by omega⟩ ?_
  clear H
  rintro J j _ k5 hJ ⟨w,T,q,rfl,H,hT,hT2,hq1,hq2⟩
  simp -implicitDefEqProofs (disch:=first|omega|(simp only[LnZ];omega))[wrap64,H.rep.len]
  refine (c_pick (n:=2) R H.sw1 (by omega) (by omega) i64c).go ?_
  rintro _ k6 ⟨r2,rfl,o,z2,y2,H⟩
  by_cases c:(T.length:Int)<200+r2
  ·simp -implicitDefEqProofs (disch:=first|omega|(simp only[LnZ];omega))[wrap64,c,setC]
   refine HS.app1 (bytes:=8) H.sw1 (1:Int) rfl rfl rfl ⟨by omega,by omega⟩ rfl rfl (by omega) (by omega) fun w1 k7 H=>?_
   simp -implicitDefEqProofs (disch:=omega)[wrap64]
   exact hJ (j+1) _ _ (by omega) ⟨w1,_,_,by simp,H,by simp;omega,by simp;omega,by omega,by push_cast;omega⟩
  ·simp -implicitDefEqProofs (disch:=first|omega|(simp only[LnZ];omega))[wrap64,c]
   exact RetK.keep (hk _ _ ⟨_,_,H.sw1,by omega⟩)
 simp -implicitDefEqProofs (disch:=first|omega|(simp only[LnZ];omega))[wrap64,q0,q1]
 exact RetK.keep (hk _ _ ⟨_,_,H.sw1,by omega⟩)
theorem c_l5Mutate {b:Nat}{sl v:Value}{l:List (BitVec 8)}{g h:Heap}{Γ:List HP}{p:Int}{x:Exq}(R:Rep g sl l) (Rx:Rep g v x) (hx:x.nod≤1000) (H:HS g (rb b sl p::Γ) h) (hp:0≤p) (hp2:p≤900000000000) :
  CallE Tryz.prog fn_spec_l5Mutate [.pointer (some ⟨b,0,none⟩),v] h (fun u h'=>∃(y:Exq) (p':Int),HS g (ow u y::rb b sl p'::Γ) h'∧p≤p'∧p'≤p+2):=by
 have FX:=Rx.aExq
 refine CallE.gen fun k hk=>EN_spec_l5Mutate rfl ?_
 simp -implicitDefEqProofs (disch:=first|omega|(simp only[LnZ];omega))[wrap64,FX]
 refine (c_l5Copy x (by omega) (Rx.on H)).go ?_
 intro u h1 G
 have H:=G.app H
 have FU:=H.rep.aExq
 obtain⟨wu,rfl,k1,k2,H⟩:=H.unExq
 have hO:=H.rep.one
 have hC:=H.rep.cells
 have hkl:x.kids.length≤1000:=by
  have h1:=x.nod_eq
  have key:∀l:List Exq,l.length≤Exq.nods l:=by
   intro l
   induction l with
   | nil=>simp
   | cons y l ih=>simp only[Exq.nods,List.length_cons];have:=y.nod_eq;omega
  have:=key x.kids
  omega
 simp -implicitDefEqProofs (disch:=first|omega|(simp only[LnZ];omega))[wrap64,setC,FU,hO,hC]
 refine (c_pick (n:=50) R H.sw1 (by omega) (by omega) i64c).go ?_
 rintro _ h2 ⟨r,rfl,o3,z3,y3,H⟩
 by_cases q0:r=0
 ·simp -implicitDefEqProofs (disch:=first|omega|(simp only[LnZ];omega))[wrap64,q0]
  refine H.bls [(0:Int),11,-1,2,3,4] rfl rfl (okL (by decide)) (by decide) fun w h3 H=>?_
  simp -implicitDefEqProofs (disch:=omega)[wrap64]
  refine (c_num R H (by omega) (by omega) (by simp)).go ?_
  rintro _ h4 ⟨r2,rfl,o2,_,H⟩
  simp -implicitDefEqProofs (disch:=first|omega|(simp only[LnZ];omega))[wrap64,setC,hO,hC]
  exact RetK.keep (hk _ _ ⟨Exq.mk r2 x.val x.kids,_,HS.mkExq' (kd:=r2) (vl:=x.val) H.sw1 o2 k2,by omega,by omega⟩)
 by_cases q1:r=1
 ·simp -implicitDefEqProofs (disch:=first|omega|(simp only[LnZ];omega))[wrap64,q0,q1]
  refine H.bls [(-1:Int),3,2,9223372036854775807] rfl rfl (okL (by decide)) (by decide) fun w h3 H=>?_
  simp -implicitDefEqProofs (disch:=omega)[wrap64]
  refine (c_num R H (by omega) (by omega) (by simp)).go ?_
  rintro _ h4 ⟨r2,rfl,o2,_,H⟩
  simp -implicitDefEqProofs (disch:=first|omega|(simp only[LnZ];omega))[wrap64,setC,hO,hC]
  exact RetK.keep (hk _ _ ⟨Exq.mk x.kind r2 x.kids,_,HS.mkExq' (kd:=x.kind) (vl:=r2) H.sw1 k1 o2,by omega,by omega⟩)
 by_cases q2:r=2
 ·simp -implicitDefEqProofs (disch:=first|omega|(simp only[LnZ];omega))[wrap64,q0,q1,q2,setC,hO,hC]
  refine c_l5True.go ?_
  rintro _ h3 ⟨rfl,rfl⟩
  have H0:HS g (ow _ Fm.tru::_) h3:=H.leaf (k:=1) (v:=0) i64c i64c
  simp -implicitDefEqProofs (disch:=first|omega|(simp only[LnZ];omega))[wrap64,setC,hO,hC]
  refine HS.appO (bytes:=40) (H0.sw2.sw1) rfl rfl rfl rfl rfl (by omega) (by omega) fun w' h4 H=>?_
  simp -implicitDefEqProofs (disch:=first|omega|(simp only[LnZ];omega))[wrap64,setC,H.rep.one,H.rep.cells]
  exact RetK.keep (hk _ _ ⟨Exq.mk x.kind x.val (x.kids++[Fm.tru]),_,HS.mkExq' (kd:=x.kind) (vl:=x.val) H k1 k2,by omega,by omega⟩)
 by_cases q3:r=3
 ·simp -implicitDefEqProofs (disch:=first|omega|(simp only[LnZ];omega))[wrap64,q0,q1,q2,q3,setC]
  exact RetK.keep (hk _ _ ⟨Exq.mk 0 0 [],_,H.sw1.drop.leaf (k:=0) (v:=0) i64c i64c,by omega,by omega⟩)
 simp -implicitDefEqProofs (disch:=first|omega|(simp only[LnZ];omega))[wrap64,q0,q1,q2,q3,setC,hO,hC]
 exact RetK.keep (hk _ _ ⟨Exq.mk x.kind x.val x.kids,_,HS.mkExq' (kd:=x.kind) (vl:=x.val) H.sw1 k1 k2,by omega,by omega⟩)
def H_impl_LassoValid:Hint:=⟨[(0,false),(1,true),(2,false)],[]⟩
abbrev K32_1:Pl:=.x 22 (.pick (.v 17) (.v 21) (.c (.bool false))) <|
 .m 2 22 .done
abbrev K32_2:Pl:=.x 10 (.pick (.v 6) (.v 9) (.c (.bool false))) <|
 .m 11 10 <|
 .y 11 (.als 12 none 1) <|
 .y 11 (.pget (some 13) (some 12) 1 0 none) <|
 .y 11 (.px (some 14) (.lenV (.v 13))) <|
 .y 11 (.px (some 15) (.bin .leq (.v 14) (.c (.int .i64 80)))) <|
 .x 16 (.pick (.v 11) (.v 15) (.c (.bool false))) <|
 .m 17 16 <|
 .y 17 (.als 18 none 1) <|
 .y 17 (.pget (some 19) (some 18) 1 1 none) <|
 .y 17 (.px (some 20) (.lenV (.v 19))) <|
 .st (.act (some (.v 17,true)) (.ex (some 21) (.call fn_impl_in [.v 20,.c (.int .i64 1),.c (.int .i64 80)]))) K32_1
abbrev K32_3:Pl:=.m 6 5 <|
 .y 6 (.als 7 none 1) <|
 .y 6 (.pget (some 8) (some 7) 1 1 none) <|
 .st (.act (some (.v 6,true)) (.ex (some 9) (.call fn_impl_letters [.v 8]))) K32_2
abbrev K32_4:C:=.seq (.pl <| .e 3 20 <|
 .a 3 1 <|
 .g 4 3 1 0 <|
 .c 5 (.call fn_impl_letters [.v 4]) K32_3) (.ret)
abbrev B_impl_LassoValid:C:=.seq (.pl <| .e 3 0 <|
 .o (.pnew 1 (.v 0) []) <|
 .x 2 (.mv (.c (.bool false))) .done) K32_4
def R_impl_LassoValid:FIR:=⟨B_impl_LassoValid,3,[(2,none)]⟩
theorem IR_impl_LassoValid:cfun Tryz.prog H_impl_LassoValid Tryz.f32=some R_impl_LassoValid:=by kernel_rfl
theorem EN_impl_LassoValid:ENT Tryz.prog B_impl_LassoValid [(2,none)] 1 3 fn_impl_LassoValid:=fun hargs hw=>enter Tryz.func32 rfl IR_impl_LassoValid hargs hw
def H_impl_Lasso_all:Hint:=⟨[(0,false),(1,true),(2,false)],[]⟩
abbrev K67_1:Pl:=.m 2 8 .done
abbrev K67_2:Pl:=.c 8 (.call fn_slices_Concat_S_int_int [.v 7]) K67_1
abbrev K67_3:C:=.seq (.pl <| .e 3 6 <|
 .a 3 1 <|
 .g 4 3 1 0 <|
 .a 5 1 <|
 .g 6 5 1 1 <|
 .c 7 (.bls 1 2 [.slice none 0 0] [(0,1,.v 4),(1,1,.v 6)]) K67_2) (.ret)
abbrev B_impl_Lasso_all:C:=.seq (.pl <| .e 3 0 <|
 .o (.pnew 1 (.v 0) []) <|
 .x 2 (.mv (.c (.slice none 0 0))) .done) K67_3
def R_impl_Lasso_all:FIR:=⟨B_impl_Lasso_all,3,[(2,none)]⟩
theorem IR_impl_Lasso_all:cfun Tryz.prog H_impl_Lasso_all Tryz.f67=some R_impl_Lasso_all:=by kernel_rfl
theorem EN_impl_Lasso_all:ENT Tryz.prog B_impl_Lasso_all [(2,none)] 1 3 fn_impl_Lasso_all:=fun hargs hw=>enter Tryz.func67 rfl IR_impl_Lasso_all hargs hw
def H_impl_Lasso_next:Hint:=⟨[(0,false),(1,false),(2,true),(4,false)],[]⟩
abbrev K69_1:C:=.seq (.pl <| .e 4 2 <|
 .m 4 1 <|
 .x 5 (.bin .add (.v 4) (.c (.int .i64 1))) <|
 .m 3 5 .done) (.ret)
abbrev K69_2:C:=.seq (.pl <| .e 4 3 <|
 .a 4 2 <|
 .g 5 4 2 0 <|
 .x 6 (.lenV (.v 5)) <|
 .m 3 6 .done) (.ret)
abbrev K69_3:C:=.cond 4 (.v 13) K69_2 (.skip)
abbrev K69_4:C:=.seq (.seq (.pl <| .e 4 10 <|
 .m 4 1 <|
 .x 5 (.bin .add (.v 4) (.c (.int .i64 1))) <|
 .a 6 2 <|
 .g 7 6 2 0 <|
 .x 8 (.lenV (.v 7)) <|
 .a 9 2 <|
 .g 10 9 2 1 <|
 .x 11 (.lenV (.v 10)) <|
 .x 12 (.bin .add (.v 8) (.v 11)) <|
 .x 13 (.bin .eql (.v 5) (.v 12)) .done) K69_3) K69_1
abbrev B_impl_Lasso_next:C:=.seq (.pl <| .e 4 0 <|
 .o (.pnew 2 (.v 0) []) <|
 .x 3 (.mv (.c (.int .i64 0))) .done) K69_4
def R_impl_Lasso_next:FIR:=⟨B_impl_Lasso_next,4,[(3,none)]⟩
theorem IR_impl_Lasso_next:cfun Tryz.prog H_impl_Lasso_next Tryz.f69=some R_impl_Lasso_next:=by kernel_rfl
theorem EN_impl_Lasso_next:ENT Tryz.prog B_impl_Lasso_next [(3,none)] 2 4 fn_impl_Lasso_next:=fun hargs hw=>enter Tryz.func69 rfl IR_impl_Lasso_next hargs hw
def H_impl_Lasso_truths:Hint:=⟨[(0,false),(1,false),(2,false),(3,true),(4,false),(5,false),(6,false),(8,true),(9,false),(10,false),(11,false),(15,false),(16,false),(17,false),(33,false),(35,false),(36,false),(40,false)],[[0,1,4,7,8,9,10,14,15,16,17],[0,1,4,7,9,10,11,12,13,14,17]]⟩
abbrev K34_1:C:=.seq (.pl <| .e 18 1 <|
 .l 18 8 <|
 .m 4 18 .done) (.ret)
abbrev K34_2:C:=.pl <| .e 18 3 <|
 .m 18 9 <|
 .x 19 (.mkf (.func fn_impl_Lasso_truths_2) [] [.v 6]) <|
 .c 20 (.callv (.v 18) [.c (.bool false),.v 19]) .done
abbrev K34_3:C:=.pl <| .e 18 3 <|
 .m 18 9 <|
 .x 19 (.mkf (.func fn_impl_Lasso_truths_3) [] [.v 6]) <|
 .c 20 (.callv (.v 18) [.c (.bool true),.v 19]) .done
abbrev K34_4:C:=.pl <| .e 18 3 <|
 .m 18 9 <|
 .x 19 (.mkf (.func fn_impl_Lasso_truths_4) [] [.v 6]) <|
 .c 20 (.callv (.v 18) [.c (.bool false),.v 19]) .done
abbrev K34_5:C:=.pl <| .e 18 3 <|
 .m 18 9 <|
 .x 19 (.mkf (.func fn_impl_Lasso_truths_5) [] [.v 6]) <|
 .c 20 (.callv (.v 18) [.c (.bool true),.v 19]) .done
abbrev K34_6:C:=.pl <| .e 18 1 <|
 .x 18 (.bin .add (.v 16) (.c (.int .i64 1))) <|
 .m 16 18 .done
abbrev K34_7:C:=.pl <| .e 18 3 <|
 .l 18 8 <|
 .m 19 10 <|
 .x 20 (.ia 1 (.v 18) (.v 19)) <|
 .o (.ex none (.store 1 (.v 20) (.c (.bool true)))) .done
abbrev K34_8:C:=.pl <| .e 18 12 <|
 .l 18 8 <|
 .m 19 10 <|
 .m 20 5 <|
 .m 21 10 <|
 .x 22 (.ia 1 (.v 20) (.v 21)) <|
 .l 23 22 <|
 .a 24 3 <|
 .g 25 24 3 1 <|
 .x 26 (.bin .shr (.v 23) (.v 25)) <|
 .x 27 (.bin .and (.v 26) (.c (.int .i64 1))) <|
 .x 28 (.bin .eql (.v 27) (.c (.int .i64 1))) <|
 .x 29 (.ia 1 (.v 18) (.v 19)) <|
 .o (.ex none (.store 1 (.v 29) (.v 28))) .done
abbrev K34_9:C:=.pl <| .e 18 10 <|
 .l 18 8 <|
 .m 19 10 <|
 .l 20 6 <|
 .x 21 (.ia 1 (.v 20) (.c (.int .i64 0))) <|
 .l 22 21 <|
 .m 23 10 <|
 .x 24 (.ia 1 (.v 22) (.v 23)) <|
 .l 25 24 <|
 .x 26 (.un .not (.v 25)) <|
 .x 27 (.ia 1 (.v 18) (.v 19)) <|
 .o (.ex none (.store 1 (.v 27) (.v 26))) .done
abbrev K34_10:C:=.pl <| .e 18 17 <|
 .l 18 8 <|
 .m 19 10 <|
 .l 20 6 <|
 .x 21 (.ia 1 (.v 20) (.c (.int .i64 0))) <|
 .l 22 21 <|
 .m 23 10 <|
 .x 24 (.ia 1 (.v 22) (.v 23)) <|
 .l 25 24 <|
 .m 26 25 <|
 .y 26 (.ld (some 27) (.v 6) none) <|
 .y 26 (.px (some 28) (.ia 1 (.v 27) (.c (.int .i64 1)))) <|
 .y 26 (.ld (some 29) (.v 28) none) <|
 .y 26 (.px (some 30) (.mv (.v 10))) <|
 .y 26 (.px (some 31) (.ia 1 (.v 29) (.v 30))) <|
 .y 26 (.ld (some 32) (.v 31) none) <|
 .x 33 (.pick (.v 26) (.v 32) (.c (.bool false))) <|
 .x 34 (.ia 1 (.v 18) (.v 19)) <|
 .o (.ex none (.store 1 (.v 34) (.v 33))) .done
abbrev K34_11:C:=.pl <| .e 18 17 <|
 .l 18 8 <|
 .m 19 10 <|
 .l 20 6 <|
 .x 21 (.ia 1 (.v 20) (.c (.int .i64 0))) <|
 .l 22 21 <|
 .m 23 10 <|
 .x 24 (.ia 1 (.v 22) (.v 23)) <|
 .l 25 24 <|
 .m 26 25 <|
 .n 26 (.ld (some 27) (.v 6) none) <|
 .n 26 (.px (some 28) (.ia 1 (.v 27) (.c (.int .i64 1)))) <|
 .n 26 (.ld (some 29) (.v 28) none) <|
 .n 26 (.px (some 30) (.mv (.v 10))) <|
 .n 26 (.px (some 31) (.ia 1 (.v 29) (.v 30))) <|
 .n 26 (.ld (some 32) (.v 31) none) <|
 .x 33 (.pick (.v 26) (.c (.bool true)) (.v 32)) <|
 .x 34 (.ia 1 (.v 18) (.v 19)) <|
 .o (.ex none (.store 1 (.v 34) (.v 33))) .done
abbrev K34_12:Pl:=.st (.re 18 (.v 8) none none) <|
 .st (.re 20 (.v 6) none none) <|
 .st (.re 22 (.v 21) none none) <|
 .x 26 (.ia 1 (.v 22) (.v 25)) <|
 .l 27 26 <|
 .x 28 (.ia 1 (.v 18) (.v 19)) <|
 .o (.ex none (.store 1 (.v 28) (.v 27))) .done
abbrev K34_13:C:=.pl <| .e 18 11 <|
 .l 18 8 <|
 .m 19 10 <|
 .l 20 6 <|
 .x 21 (.ia 1 (.v 20) (.c (.int .i64 0))) <|
 .l 22 21 <|
 .o (.ld (some 23) (.v 2) (some 2)) <|
 .m 24 10 <|
 .c 25 (.call fn_impl_Lasso_next [.v 23,.v 24]) K34_12
abbrev K34_14:C:=.cond 18 (.v 19) K34_13 (.skip)
abbrev K34_15:C:=.seq (.pl <| .e 18 2 <|
 .x 18 (.bin .eql (.v 17) (.c (.int .i64 6))) <|
 .m 19 18 .done) K34_14
abbrev K34_16:C:=.cond 18 (.v 19) K34_11 K34_15
abbrev K34_17:C:=.seq (.pl <| .e 18 2 <|
 .x 18 (.bin .eql (.v 17) (.c (.int .i64 5))) <|
 .m 19 18 .done) K34_16
abbrev K34_18:C:=.cond 18 (.v 19) K34_10 K34_17
abbrev K34_19:C:=.seq (.pl <| .e 18 2 <|
 .x 18 (.bin .eql (.v 17) (.c (.int .i64 4))) <|
 .m 19 18 .done) K34_18
abbrev K34_20:C:=.cond 18 (.v 19) K34_9 K34_19
abbrev K34_21:C:=.seq (.pl <| .e 18 2 <|
 .x 18 (.bin .eql (.v 17) (.c (.int .i64 3))) <|
 .m 19 18 .done) K34_20
abbrev K34_22:C:=.cond 18 (.v 19) K34_8 K34_21
abbrev K34_23:C:=.seq (.pl <| .e 18 2 <|
 .x 18 (.bin .eql (.v 17) (.c (.int .i64 2))) <|
 .m 19 18 .done) K34_22
abbrev K34_24:C:=.cond 18 (.v 19) K34_7 K34_23
abbrev K34_25:C:=.block 5 (.seq (.pl <| .e 18 2 <|
 .x 18 (.bin .eql (.v 17) (.c (.int .i64 1))) <|
 .m 19 18 .done) K34_24)
abbrev K34_26:C:=.seq (.pl <| .e 18 1 <|
 .a 18 3 <|
 .g 17 18 3 0 .done) K34_25
abbrev K34_27:C:=.seq (.block 4 (.seq (.pl <| .e 18 1 <|
 .m 18 16 <|
 .m 10 18 .done) K34_26)) K34_6
abbrev K34_28:C:=.seq (.cond 18 (.v 18) (.skip) (.exit 3)) K34_27
abbrev K34_29:C:=.seq (.pl <| .e 18 1 <|
 .x 18 (.bin .lss (.v 16) (.v 15)) .done) K34_28
abbrev K34_30:C:=.block 3 (.loop 18 [0,1,4,7,9,10,11,12,13,14,17] K34_29)
abbrev K34_31:C:=.seq (.pl <| .e 18 1 <|
 .l 18 8 <|
 .x 15 (.lenV (.v 18)) <|
 .x 16 (.mv (.c (.int .i64 0))) .done) K34_30
abbrev K34_32:C:=.cond 18 (.v 19) K34_5 K34_31
abbrev K34_33:C:=.seq (.pl <| .e 18 2 <|
 .x 18 (.bin .eql (.v 14) (.c (.int .i64 10))) <|
 .m 19 18 .done) K34_32
abbrev K34_34:C:=.cond 18 (.v 19) K34_4 K34_33
abbrev K34_35:C:=.seq (.pl <| .e 18 2 <|
 .x 18 (.bin .eql (.v 14) (.c (.int .i64 9))) <|
 .m 19 18 .done) K34_34
abbrev K34_36:C:=.cond 18 (.v 19) K34_3 K34_35
abbrev K34_37:C:=.seq (.pl <| .e 18 2 <|
 .x 18 (.bin .eql (.v 14) (.c (.int .i64 8))) <|
 .m 19 18 .done) K34_36
abbrev K34_38:C:=.cond 18 (.v 19) K34_2 K34_37
abbrev K34_39:C:=.block 2 (.seq (.pl <| .e 18 2 <|
 .x 18 (.bin .eql (.v 14) (.c (.int .i64 7))) <|
 .m 19 18 .done) K34_38)
abbrev K34_40:C:=.seq (.seq (.pl <| .e 18 1 <|
 .a 18 3 <|
 .g 14 18 3 0 .done) K34_39) K34_1
abbrev K34_41:C:=.seq (.pl <| .e 18 1 <|
 .x 18 (.mkf (.func fn_impl_Lasso_truths_1) [] [.v 8,.v 2]) <|
 .m 9 18 .done) K34_40
abbrev K34_42:Pl:=.o (.ex none (.store 1 (.v 8) (.v 20))) .done
abbrev K34_43:Pl:=.c 8 (.alloc (.c (.slice none 0 0))) K34_42
abbrev K34_44:C:=.seq (.pl <| .e 18 3 <|
 .m 18 5 <|
 .x 19 (.lenV (.v 18)) <|
 .c 20 (.mks 1 1 [.bool false] (.v 19) (.v 19)) K34_43) K34_41
abbrev K34_45:C:=.pl <| .e 18 1 <|
 .x 18 (.bin .add (.v 13) (.c (.int .i64 1))) <|
 .m 13 18 .done
abbrev K34_46:Pl:=.o (.ex none (.store 1 (.v 6) (.v 23))) .done
abbrev K34_47:Pl:=.st (.re 18 (.v 6) none none) <|
 .o (.psl 22 [.slice none 0 0] [(0,1,.v 21)]) <|
 .c 23 (.app 24 1 [.slice none 0 0] (.o (.v 18)) (.p 1 22)) K34_46
abbrev K34_48:C:=.pl <| .e 18 6 <|
 .l 18 6 <|
 .o (.ld (some 19) (.v 2) (some 2)) <|
 .o (.pget (some 20) none 7 0 (some 3)) <|
 .c 21 (.call fn_impl_Lasso_truths [.v 19,.v 20]) K34_47
abbrev K34_49:C:=.seq (.block 1 (.seq (.pl <| .e 18 2 <|
 .x 18 (.ia 3 (.v 11) (.v 13)) <|
 .o (.ld (some 19) (.v 18) (some 3)) <|
 .o (.pnew 7 (.c (.agg #[.int .i64 0,.int .i64 0,.slice none 0 0])) []) <|
 .o (.pset none 7 0 3 (.v 19)) .done) K34_48)) K34_45
abbrev K34_50:C:=.seq (.cond 18 (.v 18) (.skip) (.exit 0)) K34_49
abbrev K34_51:C:=.seq (.pl <| .e 18 1 <|
 .x 18 (.bin .lss (.v 13) (.v 12)) .done) K34_50
abbrev K34_52:C:=.block 0 (.loop 18 [0,1,4,7,8,9,10,14,15,16,17] K34_51)
abbrev K34_53:C:=.seq (.seq (.pl <| .e 18 1 <|
 .a 18 3 <|
 .g 11 18 3 2 <|
 .x 12 (.lenV (.v 11)) <|
 .x 13 (.mv (.c (.int .i64 0))) .done) K34_52) K34_44
abbrev K34_54:C:=.seq (.pl <| .e 18 0 <|
 .c 6 (.alloc (.c (.slice none 0 0))) .done) K34_53
abbrev K34_55:Pl:=.m 5 19 .done
abbrev K34_56:C:=.seq (.pl <| .e 18 2 <|
 .o (.ld (some 18) (.v 2) (some 2)) <|
 .c 19 (.call fn_impl_Lasso_all [.v 18]) K34_55) K34_54
abbrev K34_57:Pl:=.o (.pnew 3 (.v 1) []) <|
 .x 4 (.mv (.c (.slice none 0 0))) .done
abbrev B_impl_Lasso_truths:C:=.seq (.pl <| .e 18 0 <|
 .c 2 (.alloc (.v 0)) K34_57) K34_56
def R_impl_Lasso_truths:FIR:=⟨B_impl_Lasso_truths,18,[(4,none)]⟩
theorem IR_impl_Lasso_truths:cfun Tryz.prog H_impl_Lasso_truths Tryz.f34=some R_impl_Lasso_truths:=by kernel_rfl
theorem EN_impl_Lasso_truths:ENT Tryz.prog B_impl_Lasso_truths [(4,none)] 2 18 fn_impl_Lasso_truths:=fun hargs hw=>enter Tryz.func34 rfl IR_impl_Lasso_truths hargs hw
def H_impl_Lasso_truths_1:Hint:=⟨[(0,false),(1,false),(2,false),(3,false),(6,false),(7,false),(8,false),(9,false),(11,false),(12,false)],[[4,5,6,7],[0,4,6,7,8,9],[0,4,7,8,9]]⟩
abbrev K68_1:C:=.pl <| .e 10 2 <|
 .m 10 6 <|
 .x 11 (.bin .sub (.v 10) (.c (.int .i64 1))) <|
 .m 6 11 .done
abbrev K68_2:C:=.pl <| .e 10 0 <|
 .x 5 (.mv (.c (.bool true))) .done
abbrev K68_3:C:=.seq (.pl <| .e 10 4 <|
 .l 10 2 <|
 .m 11 6 <|
 .m 12 7 <|
 .x 13 (.ia 1 (.v 10) (.v 11)) <|
 .o (.ex none (.store 1 (.v 13) (.v 12))) .done) K68_2
abbrev K68_4:C:=.cond 10 (.v 15) K68_3 (.skip)
abbrev K68_5:C:=.seq (.pl <| .e 10 6 <|
 .m 10 7 <|
 .l 11 2 <|
 .m 12 6 <|
 .x 13 (.ia 1 (.v 11) (.v 12)) <|
 .l 14 13 <|
 .x 15 (.eqb true (.v 10) (.v 14)) .done) K68_4
abbrev K68_6:Pl:=.m 7 18 .done
abbrev K68_7:Pl:=.st (.re 12 (.v 2) none none) <|
 .x 16 (.ia 1 (.v 12) (.v 15)) <|
 .l 17 16 <|
 .c 18 (.callv (.v 10) [.v 11,.v 17]) K68_6
abbrev K68_8:C:=.seq (.block 5 (.seq (.pl <| .e 10 9 <|
 .m 10 1 <|
 .m 11 6 <|
 .l 12 2 <|
 .o (.ld (some 13) (.v 3) (some 2)) <|
 .m 14 6 <|
 .c 15 (.call fn_impl_Lasso_next [.v 13,.v 14]) K68_7) K68_5)) K68_1
abbrev K68_9:C:=.cond 10 (.v 11) (.skip) (.exit 4)
abbrev K68_10:C:=.seq (.seq (.pl <| .e 10 2 <|
 .m 10 6 <|
 .x 11 (.bin .geq (.v 10) (.c (.int .i64 0))) .done) K68_9) K68_8
abbrev K68_11:C:=.block 4 (.loop 10 [0,4,7,8,9] K68_10)
abbrev K68_12:C:=.seq (.pl <| .e 10 3 <|
 .l 10 2 <|
 .x 11 (.lenV (.v 10)) <|
 .x 12 (.bin .sub (.v 11) (.c (.int .i64 1))) <|
 .m 6 12 .done) K68_11
abbrev K68_13:C:=.block 3 (.seq (.pl <| .e 10 0 <|
 .x 5 (.mv (.c (.bool false))) .done) K68_12)
abbrev K68_14:C:=.cond 10 (.v 10) (.skip) (.exit 2)
abbrev K68_15:C:=.seq (.seq (.pl <| .e 10 1 <|
 .m 10 5 .done) K68_14) K68_13
abbrev K68_16:C:=.block 2 (.loop 10 [0,4,6,7,8,9] K68_15)
abbrev K68_17:C:=.seq (.pl <| .e 10 0 <|
 .x 5 (.mv (.c (.bool true))) .done) K68_16
abbrev K68_18:C:=.pl <| .e 10 1 <|
 .x 10 (.bin .add (.v 9) (.c (.int .i64 1))) <|
 .m 9 10 .done
abbrev K68_19:C:=.pl <| .e 10 4 <|
 .l 10 2 <|
 .m 11 4 <|
 .m 12 0 <|
 .x 13 (.ia 1 (.v 10) (.v 11)) <|
 .o (.ex none (.store 1 (.v 13) (.v 12))) .done
abbrev K68_20:C:=.seq (.block 1 (.seq (.pl <| .e 10 1 <|
 .m 10 9 <|
 .m 4 10 .done) K68_19)) K68_18
abbrev K68_21:C:=.seq (.cond 10 (.v 10) (.skip) (.exit 0)) K68_20
abbrev K68_22:C:=.seq (.pl <| .e 10 1 <|
 .x 10 (.bin .lss (.v 9) (.v 8)) .done) K68_21
abbrev K68_23:C:=.block 0 (.loop 10 [4,5,6,7] K68_22)
abbrev B_impl_Lasso_truths_1:C:=.seq (.seq (.pl <| .e 10 1 <|
 .l 10 2 <|
 .x 8 (.lenV (.v 10)) <|
 .x 9 (.mv (.c (.int .i64 0))) .done) K68_23) K68_17
def R_impl_Lasso_truths_1:FIR:=⟨B_impl_Lasso_truths_1,10,[]⟩
theorem IR_impl_Lasso_truths_1:cfun Tryz.prog H_impl_Lasso_truths_1 Tryz.f68=some R_impl_Lasso_truths_1:=by kernel_rfl
theorem EN_impl_Lasso_truths_1:ENT Tryz.prog B_impl_Lasso_truths_1 [] 4 10 fn_impl_Lasso_truths_1:=fun hargs hw=>enter Tryz.func68 rfl IR_impl_Lasso_truths_1 hargs hw
def H_impl_Lasso_truths_2:Hint:=⟨[(0,false),(1,false),(2,false),(5,false)],[]⟩
abbrev K70_1:C:=.seq (.pl <| .e 4 17 <|
 .l 4 2 <|
 .x 5 (.ia 1 (.v 4) (.c (.int .i64 1))) <|
 .l 6 5 <|
 .m 7 0 <|
 .x 8 (.ia 1 (.v 6) (.v 7)) <|
 .l 9 8 <|
 .m 10 9 <|
 .n 10 (.ld (some 11) (.v 2) none) <|
 .n 10 (.px (some 12) (.ia 1 (.v 11) (.c (.int .i64 0)))) <|
 .n 10 (.ld (some 13) (.v 12) none) <|
 .n 10 (.px (some 14) (.mv (.v 0))) <|
 .n 10 (.px (some 15) (.ia 1 (.v 13) (.v 14))) <|
 .n 10 (.ld (some 16) (.v 15) none) <|
 .n 10 (.px (some 17) (.mv (.v 16))) <|
 .y 17 (.px (some 18) (.mv (.v 1))) <|
 .n 10 (.px (some 19) (.pick (.v 17) (.v 18) (.c (.bool false)))) <|
 .x 20 (.pick (.v 10) (.c (.bool true)) (.v 19)) <|
 .m 3 20 .done) (.ret)
abbrev B_impl_Lasso_truths_2:C:=.seq (.pl <| .e 4 0 <|
 .x 3 (.mv (.c (.bool false))) .done) K70_1
def R_impl_Lasso_truths_2:FIR:=⟨B_impl_Lasso_truths_2,4,[(3,none)]⟩
theorem IR_impl_Lasso_truths_2:cfun Tryz.prog H_impl_Lasso_truths_2 Tryz.f70=some R_impl_Lasso_truths_2:=by kernel_rfl
theorem EN_impl_Lasso_truths_2:ENT Tryz.prog B_impl_Lasso_truths_2 [(3,none)] 3 4 fn_impl_Lasso_truths_2:=fun hargs hw=>enter Tryz.func70 rfl IR_impl_Lasso_truths_2 hargs hw
def H_impl_Lasso_truths_3:Hint:=⟨[(0,false),(1,false),(2,false),(5,false)],[]⟩
abbrev K71_1:C:=.seq (.pl <| .e 4 17 <|
 .l 4 2 <|
 .x 5 (.ia 1 (.v 4) (.c (.int .i64 1))) <|
 .l 6 5 <|
 .m 7 0 <|
 .x 8 (.ia 1 (.v 6) (.v 7)) <|
 .l 9 8 <|
 .m 10 9 <|
 .y 10 (.ld (some 11) (.v 2) none) <|
 .y 10 (.px (some 12) (.ia 1 (.v 11) (.c (.int .i64 0)))) <|
 .y 10 (.ld (some 13) (.v 12) none) <|
 .y 10 (.px (some 14) (.mv (.v 0))) <|
 .y 10 (.px (some 15) (.ia 1 (.v 13) (.v 14))) <|
 .y 10 (.ld (some 16) (.v 15) none) <|
 .y 10 (.px (some 17) (.mv (.v 16))) <|
 .n 17 (.px (some 18) (.mv (.v 1))) <|
 .y 10 (.px (some 19) (.pick (.v 17) (.c (.bool true)) (.v 18))) <|
 .x 20 (.pick (.v 10) (.v 19) (.c (.bool false))) <|
 .m 3 20 .done) (.ret)
abbrev B_impl_Lasso_truths_3:C:=.seq (.pl <| .e 4 0 <|
 .x 3 (.mv (.c (.bool false))) .done) K71_1
def R_impl_Lasso_truths_3:FIR:=⟨B_impl_Lasso_truths_3,4,[(3,none)]⟩
theorem IR_impl_Lasso_truths_3:cfun Tryz.prog H_impl_Lasso_truths_3 Tryz.f71=some R_impl_Lasso_truths_3:=by kernel_rfl
theorem EN_impl_Lasso_truths_3:ENT Tryz.prog B_impl_Lasso_truths_3 [(3,none)] 3 4 fn_impl_Lasso_truths_3:=fun hargs hw=>enter Tryz.func71 rfl IR_impl_Lasso_truths_3 hargs hw
def H_impl_Lasso_truths_4:Hint:=⟨[(0,false),(1,false),(2,false),(5,false)],[]⟩
abbrev K72_1:C:=.seq (.pl <| .e 4 9 <|
 .l 4 2 <|
 .x 5 (.ia 1 (.v 4) (.c (.int .i64 0))) <|
 .l 6 5 <|
 .m 7 0 <|
 .x 8 (.ia 1 (.v 6) (.v 7)) <|
 .l 9 8 <|
 .m 10 9 <|
 .n 10 (.px (some 11) (.mv (.v 1))) <|
 .x 12 (.pick (.v 10) (.c (.bool true)) (.v 11)) <|
 .m 3 12 .done) (.ret)
abbrev B_impl_Lasso_truths_4:C:=.seq (.pl <| .e 4 0 <|
 .x 3 (.mv (.c (.bool false))) .done) K72_1
def R_impl_Lasso_truths_4:FIR:=⟨B_impl_Lasso_truths_4,4,[(3,none)]⟩
theorem IR_impl_Lasso_truths_4:cfun Tryz.prog H_impl_Lasso_truths_4 Tryz.f72=some R_impl_Lasso_truths_4:=by kernel_rfl
theorem EN_impl_Lasso_truths_4:ENT Tryz.prog B_impl_Lasso_truths_4 [(3,none)] 3 4 fn_impl_Lasso_truths_4:=fun hargs hw=>enter Tryz.func72 rfl IR_impl_Lasso_truths_4 hargs hw
def H_impl_Lasso_truths_5:Hint:=⟨[(0,false),(1,false),(2,false),(5,false)],[]⟩
abbrev K73_1:C:=.seq (.pl <| .e 4 9 <|
 .l 4 2 <|
 .x 5 (.ia 1 (.v 4) (.c (.int .i64 0))) <|
 .l 6 5 <|
 .m 7 0 <|
 .x 8 (.ia 1 (.v 6) (.v 7)) <|
 .l 9 8 <|
 .m 10 9 <|
 .y 10 (.px (some 11) (.mv (.v 1))) <|
 .x 12 (.pick (.v 10) (.v 11) (.c (.bool false))) <|
 .m 3 12 .done) (.ret)
abbrev B_impl_Lasso_truths_5:C:=.seq (.pl <| .e 4 0 <|
 .x 3 (.mv (.c (.bool false))) .done) K73_1
def R_impl_Lasso_truths_5:FIR:=⟨B_impl_Lasso_truths_5,4,[(3,none)]⟩
theorem IR_impl_Lasso_truths_5:cfun Tryz.prog H_impl_Lasso_truths_5 Tryz.f73=some R_impl_Lasso_truths_5:=by kernel_rfl
theorem EN_impl_Lasso_truths_5:ENT Tryz.prog B_impl_Lasso_truths_5 [(3,none)] 3 4 fn_impl_Lasso_truths_5:=fun hargs hw=>enter Tryz.func73 rfl IR_impl_Lasso_truths_5 hargs hw
def H_impl_Satisfies:Hint:=⟨[(0,false),(1,false),(2,true),(3,true),(4,false),(5,false)],[]⟩
abbrev K15_1:Pl:=.x 9 (.ia 1 (.v 8) (.c (.int .i64 0))) <|
 .l 10 9 <|
 .m 4 10 <|
 .x 5 (.mv (.c (.bool true))) .done
abbrev K15_2:C:=.seq (.pl <| .e 6 5 <|
 .o (.pget (some 6) none 2 0 (some 2)) <|
 .o (.pget (some 7) none 3 0 (some 3)) <|
 .c 8 (.call fn_impl_Lasso_truths [.v 6,.v 7]) K15_1) (.ret)
abbrev K15_3:C:=.seq (.pl <| .e 6 0 <|
 .x 4 (.mv (.c (.bool false))) <|
 .x 5 (.mv (.c (.bool false))) .done) (.ret)
abbrev K15_4:C:=.cond 6 (.v 13) K15_3 (.skip)
abbrev K15_5:Pl:=.n 9 (.px (some 12) (.un .not (.v 11))) <|
 .x 13 (.pick (.v 9) (.c (.bool true)) (.v 12)) .done
abbrev K15_6:Pl:=.x 8 (.un .not (.v 7)) <|
 .m 9 8 <|
 .n 9 (.pget (some 10) none 3 0 (some 3)) <|
 .st (.act (some (.v 9,false)) (.ex (some 11) (.call fn_impl_FormulaValid [.v 10]))) K15_5
abbrev K15_7:C:=.seq (.seq (.pl <| .e 6 8 <|
 .o (.pget (some 6) none 2 0 (some 2)) <|
 .c 7 (.call fn_impl_LassoValid [.v 6]) K15_6) K15_4) K15_2
abbrev B_impl_Satisfies:C:=.seq (.pl <| .e 6 0 <|
 .o (.pnew 2 (.v 0) []) <|
 .o (.pnew 3 (.v 1) []) <|
 .x 4 (.mv (.c (.bool false))) <|
 .x 5 (.mv (.c (.bool false))) .done) K15_7
def R_impl_Satisfies:FIR:=⟨B_impl_Satisfies,6,[(4,none),(5,none)]⟩
theorem IR_impl_Satisfies:cfun Tryz.prog H_impl_Satisfies Tryz.f15=some R_impl_Satisfies:=by kernel_rfl
theorem EN_impl_Satisfies:ENT Tryz.prog B_impl_Satisfies [(4,none),(5,none)] 2 6 fn_impl_Satisfies:=fun hargs hw=>enter Tryz.func15 rfl IR_impl_Satisfies hargs hw
def H_slices_Concat_S_int_int:Hint:=⟨[(0,false),(2,false),(3,false),(5,false),(6,false),(8,false),(9,false),(10,false),(11,false),(25,false),(26,false),(27,false)],[[1,3,4,5,9,10,11],[0,1,2,3,5,6,7,8]]⟩
abbrev K46_1:C:=.seq (.pl <| .e 12 1 <|
 .m 12 4 <|
 .m 1 12 .done) (.ret)
abbrev K46_2:C:=.pl <| .e 12 1 <|
 .x 12 (.bin .add (.v 11) (.c (.int .i64 1))) <|
 .m 11 12 .done
abbrev K46_3:Pl:=.m 4 14 .done
abbrev K46_4:C:=.pl <| .e 12 3 <|
 .m 12 4 <|
 .m 13 5 <|
 .c 14 (.app 8 1 [.int .i64 0] (.o (.v 12)) (.o (.v 13))) K46_3
abbrev K46_5:C:=.seq (.block 3 (.seq (.pl <| .e 12 2 <|
 .x 12 (.ia 1 (.v 9) (.v 11)) <|
 .l 13 12 <|
 .m 5 13 .done) K46_4)) K46_2
abbrev K46_6:C:=.seq (.cond 12 (.v 12) (.skip) (.exit 2)) K46_5
abbrev K46_7:C:=.seq (.pl <| .e 12 1 <|
 .x 12 (.bin .lss (.v 11) (.v 10)) .done) K46_6
abbrev K46_8:C:=.block 2 (.loop 12 [0,1,2,3,5,6,7,8] K46_7)
abbrev K46_9:C:=.seq (.seq (.pl <| .e 12 0 <|
 .m 9 0 <|
 .x 10 (.lenV (.v 9)) <|
 .x 11 (.mv (.c (.int .i64 0))) .done) K46_8) K46_1
abbrev K46_10:Pl:=.m 4 13 .done
abbrev K46_11:C:=.seq (.pl <| .e 12 2 <|
 .m 12 2 <|
 .c 13 (.call fn_slices_Grow_S_int_int [.c (.slice none 0 0),.v 12]) K46_10) K46_9
abbrev K46_12:C:=.pl <| .e 12 1 <|
 .x 12 (.bin .add (.v 8) (.c (.int .i64 1))) <|
 .m 8 12 .done
abbrev K46_13:C:=.pl <| .e 12 1 <|
 .o (.px none (.extract 0 (.c (.tuple #[])))) <|
 .o (.px none (.extract 0 (.c (.tuple #[])))) .done
abbrev K46_14:C:=.cond 12 (.v 13) K46_13 (.skip)
abbrev K46_15:C:=.seq (.pl <| .e 12 2 <|
 .m 12 2 <|
 .x 13 (.bin .lss (.v 12) (.c (.int .i64 0))) .done) K46_14
abbrev K46_16:C:=.seq (.pl <| .e 12 4 <|
 .m 12 2 <|
 .m 13 3 <|
 .x 14 (.lenV (.v 13)) <|
 .x 15 (.bin .add (.v 12) (.v 14)) <|
 .m 2 15 .done) K46_15
abbrev K46_17:C:=.seq (.block 1 (.seq (.pl <| .e 12 2 <|
 .x 12 (.ia 1 (.v 6) (.v 8)) <|
 .l 13 12 <|
 .m 3 13 .done) K46_16)) K46_12
abbrev K46_18:C:=.seq (.cond 12 (.v 12) (.skip) (.exit 0)) K46_17
abbrev K46_19:C:=.seq (.pl <| .e 12 1 <|
 .x 12 (.bin .lss (.v 8) (.v 7)) .done) K46_18
abbrev K46_20:C:=.block 0 (.loop 12 [1,3,4,5,9,10,11] K46_19)
abbrev K46_21:C:=.seq (.seq (.pl <| .e 12 0 <|
 .m 6 0 <|
 .x 7 (.lenV (.v 6)) <|
 .x 8 (.mv (.c (.int .i64 0))) .done) K46_20) K46_11
abbrev K46_22:C:=.seq (.pl <| .e 12 0 <|
 .x 2 (.mv (.c (.int .i64 0))) .done) K46_21
abbrev B_slices_Concat_S_int_int:C:=.seq (.pl <| .e 12 0 <|
 .x 1 (.mv (.c (.slice none 0 0))) .done) K46_22
def R_slices_Concat_S_int_int:FIR:=⟨B_slices_Concat_S_int_int,12,[(1,none)]⟩
theorem IR_slices_Concat_S_int_int:cfun Tryz.prog H_slices_Concat_S_int_int Tryz.f46=some R_slices_Concat_S_int_int:=by kernel_rfl
theorem EN_slices_Concat_S_int_int:ENT Tryz.prog B_slices_Concat_S_int_int [(1,none)] 1 12 fn_slices_Concat_S_int_int:=fun hargs hw=>enter Tryz.func46 rfl IR_slices_Concat_S_int_int hargs hw
def H_slices_Grow_S_int_int:Hint:=⟨[(0,false),(1,false),(4,false)],[]⟩
abbrev K91_1:C:=.seq (.pl <| .e 3 1 <|
 .m 3 0 <|
 .m 2 3 .done) (.ret)
abbrev K91_2:Pl:=.m 9 0 <|
 .x 10 (.lenV (.v 9)) <|
 .x 11 (.sliceV 1 (.v 8) none (some (.v 10)) none) <|
 .m 0 11 .done
abbrev K91_3:C:=.pl <| .e 3 9 <|
 .m 3 0 <|
 .m 4 0 <|
 .x 5 (.capV (.v 4)) <|
 .x 6 (.sliceV 1 (.v 3) none (some (.v 5)) none) <|
 .m 7 1 <|
 .c 8 (.app 8 1 [.int .i64 0] (.o (.v 6)) (.z (.v 7) 8 [.int .i64 0])) K91_2
abbrev K91_4:C:=.cond 3 (.v 4) K91_3 (.skip)
abbrev K91_5:C:=.seq (.pl <| .e 3 2 <|
 .m 3 1 <|
 .x 4 (.bin .gtr (.v 3) (.c (.int .i64 0))) .done) K91_4
abbrev K91_6:C:=.seq (.seq (.pl <| .e 3 7 <|
 .m 3 1 <|
 .m 4 0 <|
 .x 5 (.capV (.v 4)) <|
 .m 6 0 <|
 .x 7 (.lenV (.v 6)) <|
 .x 8 (.bin .sub (.v 5) (.v 7)) <|
 .x 9 (.bin .sub (.v 3) (.v 8)) <|
 .m 1 9 .done) K91_5) K91_1
abbrev K91_7:C:=.pl <| .e 3 1 <|
 .o (.px none (.extract 0 (.c (.tuple #[])))) <|
 .o (.px none (.extract 0 (.c (.tuple #[])))) .done
abbrev K91_8:C:=.cond 3 (.v 4) K91_7 (.skip)
abbrev K91_9:C:=.seq (.seq (.pl <| .e 3 2 <|
 .m 3 1 <|
 .x 4 (.bin .lss (.v 3) (.c (.int .i64 0))) .done) K91_8) K91_6
abbrev B_slices_Grow_S_int_int:C:=.seq (.pl <| .e 3 0 <|
 .x 2 (.mv (.c (.slice none 0 0))) .done) K91_9
def R_slices_Grow_S_int_int:FIR:=⟨B_slices_Grow_S_int_int,3,[(2,none)]⟩
theorem IR_slices_Grow_S_int_int:cfun Tryz.prog H_slices_Grow_S_int_int Tryz.f91=some R_slices_Grow_S_int_int:=by kernel_rfl
theorem EN_slices_Grow_S_int_int:ENT Tryz.prog B_slices_Grow_S_int_int [(2,none)] 2 3 fn_slices_Grow_S_int_int:=fun hargs hw=>enter Tryz.func91 rfl IR_slices_Grow_S_int_int hargs hw
def incr (n:Int):Int→List Int→Prop
 | _,[]=>True
 | lo,x::l=>lo<x∧x<n∧incr n x l
instance decIncr (n:Int):∀(lo:Int) (l:List Int),Decidable (incr n lo l)
 | _,[]=>inferInstanceAs (Decidable True)
 | lo,x::l=>@instDecidableAnd _ _ _ (@instDecidableAnd _ _ _ (decIncr n x l))
theorem incr_len {n:Int}:∀{lo:Int}{l:List Int},incr n lo l→lo<n→lo+l.length<n
 | lo,[],_,h=>by simpa using h
 | lo,x::l,h,_=>by
  have:=incr_len h.2.2 h.2.1
  have:=h.1
  simp;omega
theorem incr_mem {n:Int}:∀{lo:Int}{l:List Int},incr n lo l→∀x∈l,lo<x∧x<n
 | lo,y::l,h,x,hx=>by
  rcases List.mem_cons.1 hx with rfl | hx
  ·exact⟨h.1,h.2.1⟩
  ·have:=incr_mem h.2.2 x hx
   have:=h.1
   omega
def Tr.Ok (n:Int) (t:Tr):Prop:=0≤t.frm∧t.frm<n∧0≤t.to∧t.to<n∧0≤t.care∧t.care≤7∧0≤t.value∧andI .i64 t.value t.care=t.value
instance instDecTrOk (n:Int) (t:Tr):Decidable (t.Ok n):=by unfold Tr.Ok;infer_instance
def Aut.Ok (a:Aut):Prop:=(1≤a.acc.length∧a.acc.length≤64)∧a.edges.length≤2048∧incr a.acc.length (-1) a.init∧∀t∈a.edges,t.Ok a.acc.length
instance instDecAutOk (a:Aut):Decidable a.Ok:=by unfold Aut.Ok;infer_instance
theorem Aut.Ok.n {a:Aut}(h:a.Ok):1≤a.acc.length∧a.acc.length≤64:=h.1
theorem Aut.Ok.e {a:Aut}(h:a.Ok):a.edges.length≤2048:=h.2.1
theorem Aut.Ok.i {a:Aut}(h:a.Ok):incr a.acc.length (-1) a.init:=h.2.2.1
theorem Aut.Ok.t {a:Aut}(h:a.Ok) {i:Nat}(hi:i<a.edges.length):a.edges[i].Ok a.acc.length:=h.2.2.2 _ (List.getElem_mem hi)
theorem Aut.Ok.il {a:Aut}(h:a.Ok):a.init.length≤64:=by
 have h1:=incr_len h.i (by have:=h.n;omega)
 have:=h.n
 omega
theorem Aut.Ok.im {a:Aut}(h:a.Ok) {i:Nat}(hi:i<a.init.length):0≤a.init[i]∧a.init[i]<a.acc.length:=by
 have h1:=incr_mem h.i _ (List.getElem_mem hi)
 omega
def Tr.on (t:Tr) (letter:Int):Bool:=decide (andI .i64 letter t.care=t.value)
def Tr.shift (n:Int) (t:Tr):Tr:=⟨t.frm+n,t.care,t.value,t.to+n⟩
def Aut.empty:Aut:=⟨[],[],[]⟩
abbrev Rl:=Nat→Nat→Bool
def Ans (a:Aut) (R:Rl) (i j:Nat):Prop:=∀l:Nat,l<8→∀e∈a.edges,e.frm=i→e.on l=true→∃f∈a.edges,f.frm=j∧f.on l=true∧R e.to.toNat f.to.toNat=true
def AccR (a:Aut) (R:Rl):Prop:=∀i j,i<a.acc.length→j<a.acc.length→R i j=true→a.acc.getD i false=true→a.acc.getD j false=true
def Simu (a:Aut) (R:Rl):Prop:=AccR a R∧∀i j,i<a.acc.length→j<a.acc.length→R i j=true→Ans a R i j
def Upper (a:Aut) (R:Rl):Prop:=∀S,Simu a S→∀i j,i<a.acc.length→j<a.acc.length→S i j=true→R i j=true
structure Great (a:Aut) (R:Rl):Prop where
 simu:Simu a R
 upper:Upper a R
def Rl.rem (R:Rl) (i j:Nat):Rl:=fun x y=>R x y && !(decide (x=i)&&decide (y=j))
theorem Rl.rem_le {R:Rl}{i j x y:Nat}(h:R.rem i j x y=true):R x y=true:=by
 simp only[Rl.rem,Bool.and_eq_true] at h;exact h.1
theorem Ans.mono {a:Aut}{R S:Rl}(ha:a.Ok) {i j:Nat}(hRS:∀x y,x<a.acc.length→y<a.acc.length→R x y=true→S x y=true) (h:Ans a R i j):Ans a S i j:=by
 intro l hl e he hi ho
 obtain⟨f,hf,h1,h2,h3⟩:=h l hl e he hi ho
 have h4:=ha.2.2.2 e he
 have h5:=ha.2.2.2 f hf
 unfold Tr.Ok at h4 h5
 exact⟨f,hf,h1,h2,hRS _ _ (by omega) (by omega) h3⟩
theorem Upper.rem {a:Aut}{R:Rl}(ha:a.Ok) (hR:Upper a R) {i j:Nat}(hn:¬Ans a R i j):Upper a (R.rem i j):=by
 intro S hS x y hx hy h
 have h1:=hR S hS x y hx hy h
 by_cases hxy:x=i∧y=j
 ·obtain⟨rfl,rfl⟩:=hxy
  exact absurd ((hS.2 x y hx hy h).mono ha fun u v hu hv huv=>hR S hS u v hu hv huv) hn
 ·simp only[Rl.rem,h1,Bool.true_and,Bool.not_eq_true',Bool.and_eq_false_imp,decide_eq_true_eq,decide_eq_false_iff_not]
  exact fun h2 h3=>hxy ⟨h2,h3⟩
theorem AccR.rem {a:Aut}{R:Rl}(h:AccR a R) (i j:Nat):AccR a (R.rem i j):=fun x y hx hy hr=>h x y hx hy (Rl.rem_le hr)
theorem Great.congr {a:Aut}{R S:Rl}(ha:a.Ok) (h:Great a R) (he:∀x y,x<a.acc.length→y<a.acc.length→R x y=S x y):Great a S:=
 ⟨⟨fun i j hi hj hr=>h.simu.1 i j hi hj (by rw[he i j hi hj];exact hr),
  fun i j hi hj hr=>(h.simu.2 i j hi hj (by rw[he i j hi hj];exact hr)).mono ha fun x y hx hy hxy=>by rw[← he x y hx hy];exact hxy⟩,
  fun T hT i j hi hj hr=>by rw[← he i j hi hj];exact h.upper T hT i j hi hj hr⟩
def cnt2 (n:Nat) (R:Rl):Nat:=((List.range n).map fun i=>((List.range n).filter fun j=>R i j).length).sum
theorem sum_lt_of {α:Type}{f g:α→Nat}:∀{l:List α},(∀x∈l,f x≤g x)→(∃x∈l,f x<g x)→(l.map f).sum<(l.map g).sum
 | [],_,h=>by obtain⟨x,hx,_⟩:=h;simp at hx
 | y::l,h,⟨x,hx,hlt⟩=>by
  have hy:=h y (by simp)
  have hle:(l.map f).sum≤(l.map g).sum:=by
   have:∀l:List α,(∀x∈l,f x≤g x)→(l.map f).sum≤(l.map g).sum:=by
    intro l
    induction l with
    | nil=>simp
    | cons z l ih=>
     intro h
     have h1:=h z (by simp)
     have h2:=ih fun x hx=>h x (by simp[hx])
     simp;omega
   exact this l fun x hx=>h x (by simp[hx])
  rcases List.mem_cons.1 hx with rfl | hx
  ·simp;omega
  ·have:=sum_lt_of (l:=l) (fun x hx=>h x (by simp[hx])) ⟨x,hx,hlt⟩
   simp;omega
theorem filter_le_of {α:Type}{p q:α→Bool}(h:∀x,p x=true→q x=true):∀l:List α,(l.filter p).length≤(l.filter q).length
 | []=>by simp
 | x::l=>by
  have:=filter_le_of h l
  cases hp:p x
  ·cases hq:q x<;>simp[List.filter_cons,hp,hq]<;>omega
  ·simp[List.filter_cons,hp,h x hp];omega
theorem filter_lt_of {α:Type}{p q:α→Bool}(h:∀x,p x=true→q x=true):∀{l:List α},(∃x∈l,p x=false∧q x=true)→(l.filter p).length<(l.filter q).length
 | [],hx=>by obtain⟨x,hx,_⟩:=hx;simp at hx
 | y::l,⟨x,hx,h1,h2⟩=>by
  rcases List.mem_cons.1 hx with rfl | hx
  ·have:=filter_le_of h l
   simp[List.filter_cons,h1,h2];omega
  ·have:=filter_lt_of h (l:=l) ⟨x,hx,h1,h2⟩
   cases hp:p y
   ·cases hq:q y<;>simp[List.filter_cons,hp,hq]<;>omega
   ·simp[List.filter_cons,hp,h y hp];omega
theorem cnt2_rem {n:Nat}{R:Rl}{i j:Nat}(hi:i<n) (hj:j<n) (h:R i j=true):cnt2 n (R.rem i j)<cnt2 n R:=by
 refine sum_lt_of ?_ ⟨i,by simpa using hi,?_⟩
 ·intro x _
  exact filter_le_of (fun y hy=>Rl.rem_le hy) _
 ·exact filter_lt_of (fun y hy=>Rl.rem_le hy) ⟨j,by simpa using hj,by simp[Rl.rem],h⟩
structure Pass (a:Aut) (R0 R:Rl) (c:Bool) (i j:Nat):Prop where
 acc:AccR a R
 upper:Upper a R
 less:c=true→cnt2 a.acc.length R<cnt2 a.acc.length R0
 same:c=false→R=R0∧∀x y,x<a.acc.length→y<a.acc.length→(x<i∨(x=i∧y<j))→R x y=true→Ans a R x y
theorem Pass.start {a:Aut}{R:Rl}(h1:AccR a R) (h2:Upper a R):Pass a R R false 0 0:=⟨h1,h2,by simp,fun _=>⟨rfl,fun x y _ _ h=>by omega⟩⟩
theorem Pass.keep {a:Aut}{R0 R:Rl}{c:Bool}{i j:Nat}(h:Pass a R0 R c i j) (hk:R i j=true→Ans a R i j):Pass a R0 R c i (j+1):=
 ⟨h.acc,h.upper,h.less,fun hc=>⟨(h.same hc).1,fun x y hx hy hxy hr=>by
  by_cases h2:x=i∧y=j
  ·obtain⟨rfl,rfl⟩:=h2;exact hk hr
  ·exact (h.same hc).2 x y hx hy (by omega) hr⟩⟩
theorem Pass.rem {a:Aut}{R0 R:Rl}{c:Bool}{i j:Nat}(ha:a.Ok) (h:Pass a R0 R c i j) (hi:i<a.acc.length) (hj:j<a.acc.length) (hr:R i j=true) (hn:¬Ans a R i j):Pass a R0 (R.rem i j) true i (j+1):=
 ⟨h.acc.rem i j,h.upper.rem ha hn,fun _=>by
  have h1:=cnt2_rem hi hj hr
  cases hc:c
  ·rw[← (h.same hc).1];exact h1
  ·exact Nat.lt_trans h1 (h.less hc),by simp⟩
theorem Pass.next {a:Aut}{R0 R:Rl}{c:Bool}{i j:Nat}(h:Pass a R0 R c i j) (hj:a.acc.length≤j):Pass a R0 R c (i+1) 0:=
 ⟨h.acc,h.upper,h.less,fun hc=>⟨(h.same hc).1,fun x y hx hy hxy hr=>(h.same hc).2 x y hx hy (by omega) hr⟩⟩
theorem Pass.done {a:Aut}{R0 R:Rl}{i j:Nat}(h:Pass a R0 R false i j) (hi:a.acc.length≤i):Great a R:=
 ⟨⟨h.acc,fun x y hx hy hr=>(h.same rfl).2 x y hx hy (by omega) hr⟩,h.upper⟩
inductive Rch (E:Nat→Nat→Prop):Nat→Nat→Prop
 | refl (x:Nat):Rch E x x
 | step {x y z:Nat}(h:E x y) (r:Rch E y z):Rch E x z
theorem Rch.one {E:Nat→Nat→Prop}{x y:Nat}(h:E x y):Rch E x y:=.step h (.refl y)
theorem Rch.trans {E:Nat→Nat→Prop}{x y z:Nat}(h1:Rch E x y) (h2:Rch E y z):Rch E x z:=by
 induction h1 with
 | refl=>exact h2
 | step h _ ih=>exact .step h (ih h2)
theorem Rch.closed {E:Nat→Nat→Prop}{C:Nat→Prop}(hC:∀x y,C x→E x y→C y) {x y:Nat}(h:Rch E x y) (hx:C x):C y:=by
 induction h with
 | refl=>exact hx
 | step h _ ih=>exact ih (hC _ _ hx h)
def Cyc (E:Nat→Nat→Prop) (x:Nat):Prop:=∃y,E x y∧Rch E y x
def Scc (E:Nat→Nat→Prop) (x y:Nat):Prop:=Rch E x y∧Rch E y x
theorem Cyc.iff {E:Nat→Nat→Prop}{x:Nat}:Cyc E x↔E x x∨∃y,y≠x∧Scc E x y:=by
 constructor
 ·rintro⟨y,h1,h2⟩
  by_cases h:y=x
  ·subst h;exact .inl h1
  ·exact .inr ⟨y,h,.one h1,h2⟩
 ·rintro (h | ⟨y,h,h1,h2⟩)
  ·exact⟨x,h,.refl x⟩
  ·cases h1 with
   | refl=>exact absurd rfl h
   | step h3 h4=>exact⟨_,h3,h4.trans h2⟩
structure TS where
 num:Nat→Int
 low:Nat→Int
 part:Nat→Int
 stk:List Nat
 cnt:Int
 prt:Int
def fput (f:Nat→Int) (i:Nat) (v:Int):Nat→Int:=fun x=>if x=i then v else f x
@[simp] theorem fput_self {f:Nat→Int}{i:Nat}{v:Int}:fput f i v i=v:=by simp[fput]
theorem fput_ne {f:Nat→Int}{i x:Nat}{v:Int}(h:x≠i):fput f i v x=f x:=by simp[fput,h]
structure TI (n:Nat) (E:Nat→Nat→Prop) (gr:Nat→Prop) (s:TS):Prop where
 num:∀x,x<n→0≤s.num x∧s.num x≤s.cnt
 cnt:0≤s.prt∧s.prt+s.stk.length≤s.cnt
 mem:∀x,x∈s.stk↔x<n∧s.num x≠0∧s.part x<0
 ord:s.stk.Pairwise fun x y=>s.num x<s.num y
 new:∀x,x<n→s.num x=0→s.part x<0
 done:∀x y,x<n→0≤s.part x→E x y→0≤s.part y
 bnd:∀x,x<n→-1≤s.part x∧s.part x<s.prt
 scc:∀x y,x<n→y<n→0≤s.part x→0≤s.part y→(s.part x=s.part y↔Scc E x y)
 s1:∀x y,x∈s.stk→y∈s.stk→s.num x≤s.num y→Rch E x y
 s2:∀x,x∈s.stk→∃g,gr g∧g∈s.stk∧s.num g≤s.num x∧Rch E x g
structure TV (n:Nat) (E:Nat→Nat→Prop) (gr:Nat→Prop) (s:TS) (a:Nat) (s':TS):Prop where
 inv:TI n E gr s'
 num:∀x,x<n→s.num x≠0→s'.num x=s.num x∧s'.low x=s.low x
 part:∀x,x<n→0≤s.part x→s'.part x=s.part x
 stk:∃w,s'.stk=s.stk++w∧∀x∈w,s.num x=0
 vis:s'.num a≠0
 cnt:s.cnt≤s'.cnt
 fresh:∀x,x<n→s.num x=0→s'.num x≠0→s.cnt<s'.num x
 black:∀x,x<n→s.num x=0→s'.num x≠0→∀y,E x y→s'.num y≠0
 low:s'.low a=s'.num a∨∃y∈s.stk,s'.low a=s.num y∧Rch E a y
 min:∀x∈s'.stk,s.num x=0→∀y∈s.stk,E x y→s'.low a≤s.num y
structure TL (n:Nat) (E:Nat→Nat→Prop) (gr:Nat→Prop) (s:TS) (a:Nat) (sc:Nat→Prop) (s':TS):Prop where
 inv:TI n E (fun g=>gr g∨g=a) s'
 num:∀x,x<n→s.num x≠0→s'.num x=s.num x∧s'.low x=s.low x
 part:∀x,x<n→0≤s.part x→s'.part x=s.part x
 stk:∃w,s'.stk=s.stk++a::w∧∀x∈w,s.num x=0∧x≠a
 na:s'.num a=s.cnt+1
 cnt:s.cnt+1≤s'.cnt
 fresh:∀x,x<n→s.num x=0→s'.num x≠0→x≠a→s.cnt+1<s'.num x
 black:∀x,x<n→x≠a→s.num x=0→s'.num x≠0→∀y,E x y→s'.num y≠0
 lowa:s'.low a≤s.cnt+1
 low:s'.low a=s'.num a∨∃y∈s.stk,s'.low a=s.num y∧Rch E a y
 min:∀x∈s'.stk,x≠a→s.num x=0→∀y∈s.stk,E x y→s'.low a≤s.num y
 proc:∀y,sc y→y<n∧s'.num y≠0∧(y∈s.stk→s'.low a≤s.num y)
def TS.push (s:TS) (a:Nat):TS:={ s with num:=fput s.num a (s.cnt+1),low:=fput s.low a (s.cnt+1),stk:=s.stk++[a],cnt:=s.cnt+1 }
def TS.lower (s:TS) (a:Nat) (v:Int):TS:={ s with low:=fput s.low a (min (s.low a) v) }
def TS.pop (s:TS) (st:List Nat) (c:List Nat):TS:={ s with part:=fun x=>if x∈c then s.prt else s.part x,stk:=st,prt:=s.prt+1 }
section
variable {n:Nat}{E:Nat→Nat→Prop}{gr:Nat→Prop}{s s1 s2:TS}{a b:Nat}{sc:Nat→Prop}
theorem TI.stk_lt (h:TI n E gr s) {x:Nat}(hx:x∈s.stk):x<n:=((h.mem x).1 hx).1
theorem TI.stk_num (h:TI n E gr s) {x:Nat}(hx:x∈s.stk):s.num x≠0:=((h.mem x).1 hx).2.1
theorem TL.start (hE:∀x y,E x y→x<n∧y<n) (h:TI n E gr s) (ha:a<n) (h0:s.num a=0) (hg:∀g,gr g→g∈s.stk→Rch E g a):TL n E gr s a (fun _=>False) (s.push a):=by
 have hc:=h.cnt
 have hns:∀x,x∈s.stk→x≠a:=fun x hx e=>h.stk_num hx (e▸h0)
 refine⟨⟨?_,?_,?_,?_,?_,h.done,h.bnd,h.scc,?_,?_⟩,?_,fun _ _ _=>rfl,⟨[],by simp[TS.push],by simp⟩,by simp[TS.push],by simp[TS.push],?_,?_,by simp[TS.push],.inl (by simp[TS.push]),?_,fun y hy=>hy.elim⟩
 ·intro x hx
  have:=h.num x hx
  by_cases e:x=a
  ·subst e;simp[TS.push];omega
  ·simp[TS.push,fput_ne e];omega
 ·simp[TS.push];omega
 ·intro x
  by_cases e:x=a
  ·subst e
   simp only[TS.push,List.mem_append,List.mem_singleton,or_true,fput_self,true_iff]
   exact⟨ha,by omega,h.new _ ha h0⟩
  ·simp only[TS.push,List.mem_append,List.mem_singleton,e,or_false,fput_ne e]
   exact h.mem x
 ·simp only[TS.push,List.pairwise_append]
  refine⟨h.ord.imp_of_mem ?_,List.pairwise_singleton _ _,?_⟩
  ·intro x y hx hy hxy
   rw[fput_ne (hns x hx),fput_ne (hns y hy)];exact hxy
  ·intro x hx y hy
   obtain rfl:y=a:=by simpa using hy
   rw[fput_ne (hns x hx)]
   have:=h.num x (h.stk_lt hx)
   simp;omega
 ·intro x hx hx0
  by_cases e:x=a
  ·subst e;exact h.new _ hx h0
  ·simp only[TS.push,fput_ne e] at hx0;exact h.new _ hx hx0
 ·intro x y hx hy hxy
  simp only[TS.push,List.mem_append,List.mem_singleton] at hx hy hxy
  rcases hx with hx | rfl
  ·rcases hy with hy | rfl
   ·rw[fput_ne (hns x hx),fput_ne (hns y hy)] at hxy
    exact h.s1 x y hx hy hxy
   ·obtain⟨g,g1,g2,_,g4⟩:=h.s2 x hx
    exact g4.trans (hg g g1 g2)
  ·rcases hy with hy | rfl
   ·rw[fput_self,fput_ne (hns y hy)] at hxy
    have:=h.num y (h.stk_lt hy)
    omega
   ·exact .refl _
 ·intro x hx
  simp only[TS.push,List.mem_append,List.mem_singleton] at hx ⊢
  rcases hx with hx | rfl
  ·obtain⟨g,g1,g2,g3,g4⟩:=h.s2 x hx
   exact⟨g,.inl g1,.inl g2,by rw[fput_ne (hns g g2),fput_ne (hns x hx)];exact g3,g4⟩
  ·exact⟨x,.inr rfl,.inr rfl,Int.le_refl _,.refl _⟩
 ·intro x hx hx0
  have e:x≠a:=fun e=>hx0 (e▸h0)
  simp[TS.push,fput_ne e]
 ·intro x hx hx0 hx1 e
  simp only[TS.push,fput_ne e] at hx1;exact absurd hx0 hx1
 ·intro x hx e hx0 hx1
  simp only[TS.push,fput_ne e] at hx1;exact absurd hx0 hx1
 ·intro x hx e hx0
  simp only[TS.push,List.mem_append,List.mem_singleton,e,or_false] at hx
  exact absurd hx0 (h.stk_num hx)
theorem TL.lower (h:TL n E gr s a sc s1) {v:Int}(hab:E a b) (hE:∀x y,E x y→x<n∧y<n) (ha0:s.num a=0) (hi:TI n E gr s)
  (hb:s1.num b≠0) (hv:v<s1.low a→∃y∈s.stk,v=s.num y∧Rch E b y) (hsb:b∈s.stk→v≤s.num b):TL n E gr s a (fun y=>sc y∨y=b) (s1.lower a v):=by
 refine⟨⟨h.inv.num,h.inv.cnt,h.inv.mem,h.inv.ord,h.inv.new,h.inv.done,h.inv.bnd,h.inv.scc,h.inv.s1,h.inv.s2⟩,?_,h.part,h.stk,h.na,h.cnt,h.fresh,h.black,?_,?_,?_,?_⟩
 ·intro x hx hx0
  have e:x≠a:=fun e=>hx0 (e▸ha0)
  exact⟨(h.num x hx hx0).1,by simp only[TS.lower,fput_ne e];exact (h.num x hx hx0).2⟩
 ·have:=h.lowa;simp[TS.lower];omega
 ·simp only[TS.lower,fput_self]
  by_cases hlt:v<s1.low a
  ·obtain⟨y,h1,h2,h3⟩:=hv hlt
   exact .inr ⟨y,h1,by omega,.step hab h3⟩
  ·rw[Int.min_eq_left (by omega)];exact h.low
 ·intro x hx e hx0 y hy hxy
  have:=h.min x hx e hx0 y hy hxy
  simp only[TS.lower,fput_self];omega
 ·rintro y (hy | rfl)
  ·have:=h.proc y hy
   exact⟨this.1,this.2.1,fun hm=>by have:=this.2.2 hm;simp only[TS.lower,fput_self];omega⟩
  ·exact⟨(hE _ _ hab).2,hb,fun hm=>by have:=hsb hm;simp only[TS.lower,fput_self];omega⟩
theorem TL.skip (h:TL n E gr s a sc s1) (hi:TI n E gr s) (hbn:b<n) (hb:s1.num b≠0) (hp:0≤s1.part b):TL n E gr s a (fun y=>sc y∨y=b) s1:=by
 refine⟨h.inv,h.num,h.part,h.stk,h.na,h.cnt,h.fresh,h.black,h.lowa,h.low,h.min,?_⟩
 rintro y (hy | rfl)
 ·exact h.proc y hy
 ·refine⟨hbn,hb,fun hm=>?_⟩
  obtain⟨w,hw,_⟩:=h.stk
  have:y∈s1.stk:=by rw[hw];simp[hm]
  have:=((h.inv.mem y).1 this).2.2
  omega
theorem TL.seen (h:TL n E gr s a sc s1) (hab:E a b) (hE:∀x y,E x y→x<n∧y<n) (ha0:s.num a=0) (hi:TI n E gr s) (hb:s1.num b≠0) (hp:s1.part b<0):TL n E gr s a (fun y=>sc y∨y=b) (s1.lower a (s1.num b)):=by
 have hbn:=(hE _ _ hab).2
 refine h.lower hab hE ha0 hi hb ?_ ?_
 ·intro hlt
  have hm:b∈s1.stk:=(h.inv.mem b).2 ⟨hbn,hb,hp⟩
  obtain⟨w,hw,hw2⟩:=h.stk
  rw[hw] at hm
  have hl:=h.lowa
  rcases List.mem_append.1 hm with hm | hm
  ·exact⟨b,hm,(h.num b hbn (hi.stk_num hm)).1,.refl _⟩
  ·exfalso
   rcases List.mem_cons.1 hm with rfl | hm
   ·have:=h.na;omega
   ·have h1:=hw2 b hm
    have:=h.fresh b hbn h1.1 hb h1.2
    omega
 ·intro hm
  rw[(h.num b hbn (hi.stk_num hm)).1];exact Int.le_refl _
theorem TL.gray (h:TL n E gr s a sc s1) (hab:E a b) (hi:TI n E gr s) (hgr:∀g,gr g→g<n∧s.num g≠0) (han:a<n):(∀g,(gr g∨g=a)→g∈s1.stk→Rch E g b)∧(∀g,(gr g∨g=a)→g<n∧s1.num g≠0)∧a∈s1.stk:=by
 obtain⟨w,hw,hw2⟩:=h.stk
 have ha:a∈s1.stk:=by rw[hw];simp
 have hna:=h.na
 have hc:=hi.cnt
 refine⟨?_,?_,ha⟩
 ·rintro g (hg | rfl) hm
  ·refine (h.inv.s1 g a hm ha ?_).trans (.one hab)
   rw[(h.num g (h.inv.stk_lt hm) (hgr g hg).2).1,hna]
   have:=hi.num g (h.inv.stk_lt hm)
   omega
  ·exact .one hab
 ·rintro g (hg | rfl)
  ·have h1:=hgr g hg
   rw[(h.num g h1.1 h1.2).1];exact h1
  ·exact⟨han,by omega⟩
theorem TL.visit (h:TL n E gr s a sc s1) (hab:E a b) (hE:∀x y,E x y→x<n∧y<n) (ha0:s.num a=0) (hi:TI n E gr s) (hb0:s1.num b=0) (hv:TV n E (fun g=>gr g∨g=a) s1 b s2) :
  TL n E gr s a (fun y=>sc y∨y=b) (s2.lower a (s2.low b)):=by
 have han:=(hE _ _ hab).1
 have hbn:=(hE _ _ hab).2
 have hna:=h.na
 have hc:=hi.cnt
 have hc1:=h.inv.cnt
 obtain⟨w,hw,hw2⟩:=h.stk
 obtain⟨w2,hw3,hw4⟩:=hv.stk
 have ha1:s1.num a≠0:=by omega
 have hkeep:∀x,x<n→s.num x≠0→s1.num x≠0:=fun x hx h0=>by rw[(h.num x hx h0).1];exact h0
 have hb00:s.num b=0:=by
  by_cases h0:s.num b=0
  ·exact h0
  ·exact absurd hb0 (hkeep b hbn h0)
 have hva:=hv.num a han ha1
 have hla:(s2.lower a (s2.low b)).low a=Min.min (s1.low a) (s2.low b):=by simp[TS.lower,hva.2]
 have hlow:s2.low b<s1.low a→∃y∈s.stk,s2.low b=s.num y∧Rch E b y:=by
  intro hlt
  have hl:=h.lowa
  rcases hv.low with h1 | ⟨y,hy,h2,h3⟩
  ·have:=hv.fresh b hbn hb0 hv.vis
   have:=h.cnt
   omega
  ·rw[hw] at hy
   rcases List.mem_append.1 hy with hm | hm
   ·exact⟨y,hm,by rw[h2,(h.num y (hi.stk_lt hm) (hi.stk_num hm)).1],h3⟩
   ·exfalso
    rcases List.mem_cons.1 hm with rfl | hm
    ·omega
    ·have h4:=hw2 y hm
     have hyn:y<n:=h.inv.stk_lt (by rw[hw];simp[hm])
     have:=h.fresh y hyn h4.1 (h.inv.stk_num (by rw[hw];simp[hm])) h4.2
     omega
 refine⟨⟨hv.inv.num,hv.inv.cnt,hv.inv.mem,hv.inv.ord,hv.inv.new,hv.inv.done,hv.inv.bnd,hv.inv.scc,hv.inv.s1,hv.inv.s2⟩,?_,?_,⟨w++w2,by show s2.stk=_;rw[hw3,hw];simp,?_⟩,by show s2.num a=_;rw[hva.1];exact hna,Int.le_trans h.cnt hv.cnt,?_,?_,by have:=h.lowa;rw[hla];omega,?_,?_,?_⟩
 ·intro x hx hx0
  have e1:=h.num x hx hx0
  have e2:=hv.num x hx (hkeep x hx hx0)
  have e:x≠a:=fun e=>hx0 (e▸ha0)
  exact⟨by show s2.num x=_;rw[e2.1,e1.1],by simp only[TS.lower,fput_ne e];rw[e2.2,e1.2]⟩
 ·intro x hx hx0
  have e1:=h.part x hx hx0
  show s2.part x=_
  rw[hv.part x hx (by rw[e1];exact hx0),e1]
 ·intro x hx
  rcases List.mem_append.1 hx with hx | hx
  ·exact hw2 x hx
  ·have h1:=hw4 x hx
   have hxn:x<n:=hv.inv.stk_lt (by rw[hw3];simp[hx])
   refine⟨?_,fun e=>ha1 (e▸h1)⟩
   by_cases h0:s.num x=0
   ·exact h0
   ·exact absurd h1 (hkeep x hxn h0)
 ·intro x hx hx0 hx2 e
  show s.cnt+1<s2.num x
  by_cases h1:s1.num x=0
  ·have:=hv.fresh x hx h1 hx2
   have:=h.cnt
   omega
  ·have:=h.fresh x hx hx0 h1 e
   rw[(hv.num x hx h1).1];exact this
 ·intro x hx e hx0 hx2 y hxy
  show s2.num y≠0
  by_cases h1:s1.num x=0
  ·exact hv.black x hx h1 hx2 y hxy
  ·have h3:=h.black x hx e hx0 h1 y hxy
   rw[(hv.num y (hE _ _ hxy).2 h3).1];exact h3
 ·rw[hla]
  by_cases hlt:s2.low b<s1.low a
  ·obtain⟨y,h1,h2,h3⟩:=hlow hlt
   exact .inr ⟨y,h1,by rw[Int.min_eq_right (Int.le_of_lt hlt)];exact h2,.step hab h3⟩
  ·rw[Int.min_eq_left (Int.not_lt.1 hlt)]
   rcases h.low with h1 | h1
   ·exact .inl (by rw[h1];exact hva.1.symm)
   ·exact .inr h1
 ·intro x hx e hx0 y hy hxy
  rw[hla]
  clear hlow
  by_cases h1:s1.num x=0
  ·have h3:=hv.min x hx h1 y (by rw[hw];simp[hy]) hxy
   rw[(h.num y (hi.stk_lt hy) (hi.stk_num hy)).1] at h3
   omega
  ·have h3:=h.min x (by
    have hx:x∈s2.stk:=hx
    rw[hw3] at hx
    rcases List.mem_append.1 hx with hx | hx
    ·exact hx
    ·exact absurd (hw4 x hx) h1) e hx0 y hy hxy
   omega
 ·clear hlow
  rintro y (hy | rfl)
  ·have h1:=h.proc y hy
   refine⟨h1.1,?_,fun hm=>?_⟩
   ·show s2.num y≠0
    rw[(hv.num y h1.1 h1.2.1).1];exact h1.2.1
   ·have:=h1.2.2 hm
    rw[hla];omega
  ·exact⟨hbn,hv.vis,fun hm=>absurd hb00 (hi.stk_num hm)⟩
theorem TL.vis_of (h:TL n E gr s a sc s1) (hall:∀y,E a y→sc y) {x y:Nat}(hx:x<n) (hx0:s.num x=0) (hx1:s1.num x≠0) (hxy:E x y):s1.num y≠0:=by
 by_cases e:x=a
 ·subst e;exact (h.proc y (hall y hxy)).2.1
 ·exact h.black x hx e hx0 hx1 y hxy
theorem TL.end1 (h:TL n E gr s a sc s1) (hall:∀y,E a y→sc y) (han:a<n) (ha0:s.num a=0) (hi:TI n E gr s) (hne:s1.low a≠s1.num a):TV n E gr s a s1:=by
 obtain⟨w,hw,hw2⟩:=h.stk
 have hna:=h.na
 have hc:=hi.cnt
 obtain⟨y,hy,hly,hry⟩:∃y∈s.stk,s1.low a=s.num y∧Rch E a y:=h.low.resolve_left hne
 have hyn:=hi.num y (hi.stk_lt hy)
 have hy1:=h.num y (hi.stk_lt hy) (hi.stk_num hy)
 refine⟨⟨h.inv.num,h.inv.cnt,h.inv.mem,h.inv.ord,h.inv.new,h.inv.done,h.inv.bnd,h.inv.scc,h.inv.s1,?_⟩,h.num,h.part,⟨a::w,hw,?_⟩,by omega,by have:=h.cnt;omega,?_,?_,h.low,?_⟩
 ·intro x hx
  obtain⟨g,h1 | rfl,h2,h3,h4⟩:=h.inv.s2 x hx
  ·exact⟨g,h1,h2,h3,h4⟩
  ·obtain⟨g',k1,k2,k3,k4⟩:=hi.s2 y hy
   have hg':=h.num g' (hi.stk_lt k2) (hi.stk_num k2)
   exact⟨g',k1,by rw[hw];simp[k2],by omega,h4.trans (hry.trans k4)⟩
 ·intro x hx
  rcases List.mem_cons.1 hx with rfl | hx
  ·exact ha0
  ·exact (hw2 x hx).1
 ·intro x hx hx0 hx1
  by_cases e:x=a
  ·subst e;omega
  ·have:=h.fresh x hx hx0 hx1 e;omega
 ·intro x hx hx0 hx1 y hxy
  exact h.vis_of hall hx hx0 hx1 hxy
 ·intro x hx hx0 y hy hxy
  by_cases e:x=a
  ·subst e;exact (h.proc y (hall y hxy)).2.2 hy
  ·exact h.min x hx e hx0 y hy hxy
theorem TL.end2 (h:TL n E gr s a sc s1) (hE:∀x y,E x y→x<n∧y<n) (hall:∀y,E a y→sc y) (han:a<n) (ha0:s.num a=0) (hi:TI n E gr s) (hgr:∀g,gr g→g<n∧s.num g≠0) (he:s1.low a=s1.num a) {w:List Nat}(hw:s1.stk=s.stk++a::w):TV n E gr s a (s1.pop s.stk (a::w)):=by
 have hw2:∀x∈w,s.num x=0∧x≠a:=by
  obtain⟨w',hw',hw2⟩:=h.stk
  rw[hw] at hw'
  have:w=w':=by simpa using hw'
  subst this;exact hw2
 have hna:=h.na
 have hc:=hi.cnt
 have hc1:=h.inv.cnt
 have hcm:∀x,x∈a::w→x∈s1.stk:=fun x hx=>by rw[hw];exact List.mem_append_right _ hx
 have hC0:∀x∈a::w,s.num x=0:=fun x hx=>by
  rcases List.mem_cons.1 hx with rfl | hx
  ·exact ha0
  ·exact (hw2 x hx).1
 have hso:∀x∈s.stk,x∉a::w:=fun x hx hx2=>hi.stk_num hx (hC0 x hx2)
 have ham:a∈s1.stk:=hcm a (by simp)
 -- the component and what is done are closed
 have hclo:∀x y,(x∈a::w∨(x<n∧0≤s1.part x))→E x y→(y∈a::w∨(y<n∧0≤s1.part y)):=by
  rintro x y (hx | hx) hxy
  ·have hyn:=(hE _ _ hxy).2
   have hxs:=hcm x hx
   have hyv:=h.vis_of hall (h.inv.stk_lt hxs) (hC0 x hx) (h.inv.stk_num hxs) hxy
   by_cases hp:0≤s1.part y
   ·exact .inr ⟨hyn,hp⟩
   ·have hys:y∈s1.stk:=(h.inv.mem y).2 ⟨hyn,hyv,by omega⟩
    rw[hw] at hys
    rcases List.mem_append.1 hys with hy2 | hy2
    ·exfalso
     have hle:s1.low a≤s.num y:=by
      by_cases e:x=a
      ·subst e;exact (h.proc y (hall y hxy)).2.2 hy2
      ·exact h.min x hxs e (hC0 x hx) y hy2 hxy
     have:=hi.num y (hi.stk_lt hy2)
     omega
    ·exact .inl hy2
  ·exact .inr ⟨(hE _ _ hxy).2,h.inv.done x y hx.1 hx.2 hxy⟩
 have hreach:∀x y,x∈a::w→Rch E x y→(y∈a::w∨(y<n∧0≤s1.part y)):=fun x y hx hr=>hr.closed hclo (.inl hx)
 have hdone:∀x y,x<n→0≤s1.part x→Rch E x y→0≤s1.part y∧y<n:=fun x y hx hp hr=>
  hr.closed (C:=fun z=>0≤s1.part z∧z<n) (fun u v hu huv=>⟨h.inv.done u v hu.2 hu.1 huv,(hE _ _ huv).2⟩) ⟨hp,hx⟩
 have hpn:∀x∈a::w,s1.part x<0:=fun x hx=>((h.inv.mem x).1 (hcm x hx)).2.2
 have hnum:∀x∈a::w,s1.num a≤s1.num x:=by
  intro x hx
  rcases List.mem_cons.1 hx with rfl | hx
  ·exact Int.le_refl _
  ·have h1:=hw2 x hx
   have hm:=hcm x (by simp[hx])
   have:=h.fresh x (h.inv.stk_lt hm) h1.1 (h.inv.stk_num hm) h1.2
   omega
 have hto:∀x∈a::w,Rch E a x:=fun x hx=>h.inv.s1 a x ham (hcm x hx) (hnum x hx)
 have hfrom:∀x∈a::w,Rch E x a:=by
  intro x hx
  obtain⟨g,h1 | rfl,h2,h3,h4⟩:=h.inv.s2 x (hcm x hx)
  ·exfalso
   have hg:=hgr g h1
   rcases hreach x g hx h4 with h5 | h5
   ·exact hg.2 (hC0 g h5)
   ·have:=((h.inv.mem g).1 h2).2.2
    omega
  ·exact h4
 have hCC:∀x y,x∈a::w→y∈a::w→Scc E x y:=fun x y hx hy=>⟨(hfrom x hx).trans (hto y hy),(hfrom y hy).trans (hto x hx)⟩
 have hpart:∀x,(s1.pop s.stk (a::w)).part x=if x∈a::w then s1.prt else s1.part x:=fun x=>rfl
 have hsl:s1.stk.length=s.stk.length+1+w.length:=by rw[hw];simp;omega
 refine⟨⟨h.inv.num,?_,?_,?_,?_,?_,?_,?_,?_,?_⟩,h.num,?_,⟨[],by simp[TS.pop],by simp⟩,by show s1.num a≠0;omega,by show s.cnt≤s1.cnt;have:=h.cnt;omega,?_,?_,.inl he,?_⟩
 ·show 0≤s1.prt+1∧s1.prt+1+(s.stk.length:Int)≤s1.cnt
  omega
 ·intro x
  rw[hpart]
  show x∈s.stk↔x<n∧s1.num x≠0∧_
  constructor
  ·intro hx
   have h1:=hso x hx
   rw[if_neg h1]
   exact (h.inv.mem x).1 (by rw[hw];exact List.mem_append_left _ hx)
  ·rintro⟨h1,h2,h3⟩
   split at h3
   ·omega
   ·rename_i hno
    have:=(h.inv.mem x).2 ⟨h1,h2,h3⟩
    rw[hw] at this
    exact (List.mem_append.1 this).resolve_right hno
 ·show s.stk.Pairwise fun x y=>s1.num x<s1.num y
  have:=h.inv.ord
  rw[hw] at this
  exact (List.pairwise_append.1 this).1
 ·intro x hx hx0
  rw[hpart,if_neg]
  ·exact h.inv.new x hx hx0
  ·intro hm;exact h.inv.stk_num (hcm x hm) hx0
 ·intro x y hx hp hxy
  rw[hpart] at hp ⊢
  have h2:y∈a::w∨(y<n∧0≤s1.part y):=by
   split at hp
   ·rename_i hm;exact hclo x y (.inl hm) hxy
   ·exact hclo x y (.inr ⟨hx,hp⟩) hxy
  rcases h2 with h2 | h2
  ·rw[if_pos h2];omega
  ·split
   ·omega
   ·exact h2.2
 ·intro x hx
  rw[hpart]
  have:=h.inv.bnd x hx
  show _∧_<s1.prt+1
  split<;>omega
 ·intro x y hx hy hpx hpy
  rw[hpart] at hpx hpy ⊢
  rw[hpart]
  by_cases hxc:x∈a::w
  ·by_cases hyc:y∈a::w
   ·rw[if_pos hxc,if_pos hyc]
    simp[hCC x y hxc hyc]
   ·rw[if_neg hyc] at hpy
    rw[if_pos hxc,if_neg hyc]
    have:=h.inv.bnd y hy
    constructor
    ·intro e;omega
    ·rintro⟨_,h2⟩
     have h3:=hdone y x hy hpy h2
     have:=hpn x hxc
     omega
  ·rw[if_neg hxc] at hpx
   by_cases hyc:y∈a::w
   ·rw[if_neg hxc,if_pos hyc]
    have:=h.inv.bnd x hx
    constructor
    ·intro e;omega
    ·rintro⟨h2,_⟩
     have h3:=hdone x y hx hpx h2
     have:=hpn y hyc
     omega
   ·rw[if_neg hyc] at hpy
    rw[if_neg hxc,if_neg hyc]
    exact h.inv.scc x y hx hy hpx hpy
 ·intro x y hx hy hxy
  exact h.inv.s1 x y (by rw[hw];exact List.mem_append_left _ hx) (by rw[hw];exact List.mem_append_left _ hy) hxy
 ·intro x hx
  have hx:x∈s.stk:=hx
  obtain⟨g,k1,k2,k3,k4⟩:=hi.s2 x hx
  have e1:=h.num g (hi.stk_lt k2) (hi.stk_num k2)
  have e2:=h.num x (hi.stk_lt hx) (hi.stk_num hx)
  exact⟨g,k1,k2,by show s1.num g≤s1.num x;omega,k4⟩
 ·intro x hx hp
  have e1:=h.part x hx hp
  rw[hpart,if_neg,e1]
  intro hm
  have:=hpn x hm
  omega
 ·intro x hx hx0 hx1
  show s.cnt<s1.num x
  have hx1:s1.num x≠0:=hx1
  by_cases e:x=a
  ·subst e;omega
  ·have:=h.fresh x hx hx0 hx1 e;omega
 ·intro x hx hx0 hx1 y hxy
  exact h.vis_of hall hx hx0 hx1 hxy
 ·intro x hx hx0
  have hx:x∈s.stk:=hx
  exact absurd hx0 (hi.stk_num hx)
theorem TI.done_all (h:TI n E (fun _=>False) s):s.stk=[]:=by
 cases hs:s.stk with
 | nil=>rfl
 | cons x l=>
  obtain⟨g,hg,_⟩:=h.s2 x (by rw[hs];simp)
  exact hg.elim
theorem TI.start (h0:∀x,x<n→s.num x=0) (h1:∀x,x<n→s.part x = -1) (h2:s.stk=[]) (h3:s.cnt=0) (h4:s.prt=0):TI n E (fun _=>False) s:=by
 refine⟨fun x hx=>by rw[h0 x hx,h3];omega,by rw[h2,h3,h4];simp,fun x=>?_,by rw[h2];simp,fun x hx _=>by rw[h1 x hx];omega,fun x y hx hp=>by rw[h1 x hx] at hp;omega,fun x hx=>by rw[h1 x hx,h4];omega,fun x y hx _ hp=>by rw[h1 x hx] at hp;omega,fun x y hx=>by rw[h2] at hx;simp at hx,fun x hx=>by rw[h2] at hx;simp at hx⟩
 rw[h2]
 constructor
 ·intro h;simp at h
 ·rintro⟨h5,h6,_⟩;exact absurd (h0 x h5) h6
theorem TI.result (h:TI n E (fun _=>False) s) (hall:∀x,x<n→s.num x≠0):(∀x,x<n→0≤s.part x)∧∀x y,x<n→y<n→(s.part x=s.part y↔Scc E x y):=by
 have h1:∀x,x<n→0≤s.part x:=by
  intro x hx
  have:=h.mem x
  rw[h.done_all] at this
  by_cases hp:0≤s.part x
  ·exact hp
  ·have h2:=this.2 ⟨hx,hall x hx,by omega⟩
   simp at h2
 exact⟨h1,fun x y hx hy=>h.scc x y hx hy (h1 x hx) (h1 y hy)⟩
end
structure Srch (E:Nat→Nat→Prop) (S B td:Nat→Prop):Prop where
 sound:∀x,B x→∃s,S s∧Rch E s x
 start:∀s,S s→B s
 closed:∀x y,B x→¬td x→E x y→B y
theorem Rch.snoc {E:Nat→Nat→Prop}{x y z:Nat}(h:Rch E x y) (e:E y z):Rch E x z:=h.trans (.one e)
section
variable {E:Nat→Nat→Prop}{S B B' td td':Nat→Prop}
theorem Srch.done (h:Srch E S B td) (h0:∀x,¬td x) {x:Nat}:B x↔∃s,S s∧Rch E s x:=
 ⟨h.sound x,fun ⟨s,hs,hr⟩=>hr.closed (fun u v hu huv=>h.closed u v hu (h0 u) huv) (h.start s hs)⟩
theorem Srch.add (h:Srch E S B td) {x y:Nat}(hx:B x) (hxy:E x y) (hB:∀z,B' z↔B z∨z=y) (ht:∀z,td' z↔td z∨z=y):Srch E S B' td':=by
 refine⟨fun z hz=>?_,fun s hs=>(hB s).2 (.inl (h.start s hs)),fun u v hu htd huv=>?_⟩
 ·rcases (hB z).1 hz with hz | rfl
  ·exact h.sound z hz
  ·obtain⟨s,hs,hr⟩:=h.sound x hx
   exact⟨s,hs,hr.snoc hxy⟩
 ·rw[ht] at htd
  rcases (hB u).1 hu with hu | rfl
  ·exact (hB v).2 (.inl (h.closed u v hu (fun h=>htd (.inl h)) huv))
  ·exact absurd (.inr rfl) htd
theorem Srch.drop (h:Srch E S B td) {x:Nat}(hx:∀y,E x y→B y) (ht:∀z,td z→td' z∨z=x):Srch E S B td':=by
 refine⟨h.sound,h.start,fun u v hu htd huv=>?_⟩
 by_cases e:u=x
 ·subst e;exact hx v huv
 ·exact h.closed u v hu (fun h1=>(ht u h1).elim htd e) huv
theorem Srch.init (hB:∀x,B x↔S x) (ht:∀x,S x→td x):Srch E S B td:=
 ⟨fun x hx=>⟨x,(hB x).1 hx,.refl x⟩,fun s hs=>(hB s).2 hs,fun x y hx hn _=>absurd (ht x ((hB x).1 hx)) hn⟩
theorem Srch.congr (h:Srch E S B td) (hB:∀x,B x↔B' x) (ht:∀x,td x↔td' x):Srch E S B' td':=
 ⟨fun x hx=>h.sound x ((hB x).2 hx),fun s hs=>(hB s).1 (h.start s hs),fun x y hx hn hxy=>(hB y).1 (h.closed x y ((hB x).2 hx) (fun ht'=>hn ((ht x).1 ht')) hxy)⟩
end
def tru (B:List Bool) (x:Nat):Prop:=B.getD x false=true
theorem tru_set {B:List Bool}{i:Nat}(hi:i<B.length) {x:Nat}:tru (B.set i true) x↔tru B x∨x=i:=by
 simp only[tru,List.getD_eq_getElem?_getD,List.getElem?_set]
 by_cases h:i=x
 ·subst h;simp[hi]
 ·simp[h,Ne.symm h]
theorem tru_get {B:List Bool}{i:Nat}(hi:i<B.length):tru B i↔B[i]=true:=by simp[tru,hi]
theorem tru_lt {B:List Bool}{x:Nat}(h:tru B x):x<B.length:=by
 by_cases hx:x<B.length
 ·exact hx
 ·simp[tru,List.getElem?_eq_none (Nat.le_of_not_lt hx)] at h
theorem count_set {B:List Bool}{i:Nat}(hi:i<B.length) (hb:B[i]=false):(B.set i true).count false+1=B.count false:=by
 rw[List.count_set hi,hb]
 have:0<B.count false:=List.count_pos_iff.2 (hb▸List.getElem_mem hi)
 simp;omega
theorem tru_replicate {n x:Nat}:¬tru (List.replicate n false) x:=by
 simp only[tru,List.getD_eq_getElem?_getD,List.getElem?_replicate]
 split<;>simp
structure Adj (E:Nat→Nat→Prop) (G:List (List Int)):Prop where
 lt:∀x y,E x y→x<G.length∧y<G.length
 mem:∀x (hx:x<G.length) z,z∈G[x]↔∃y:Nat,z=y∧E x y
theorem Adj.get {E:Nat→Nat→Prop}{G:List (List Int)}(h:Adj E G) {x j:Nat}(hx:x<G.length) (hj:j<G[x].length):∃y:Nat,G[x][j]=(y:Int)∧E x y∧y<G.length:=by
 obtain⟨y,h1,h2⟩:=(h.mem x hx _).1 (List.getElem_mem hj)
 exact⟨y,h1,h2,(h.lt x y h2).2⟩
theorem Adj.of {E:Nat→Nat→Prop}{G:List (List Int)}(h:Adj E G) {x y:Nat}(hxy:E x y):∃(hx:x<G.length) (j:Nat) (hj:j<G[x].length),G[x][j]=(y:Int):=by
 have hx:=(h.lt x y hxy).1
 obtain⟨j,hj,h1⟩:=List.mem_iff_getElem.1 ((h.mem x hx y).2 ⟨y,rfl,hxy⟩)
 exact⟨hx,j,hj,h1⟩
theorem Adj.all {E:Nat→Nat→Prop}{G:List (List Int)}(h:Adj E G) {x:Nat}(hx:x<G.length) {C:Nat→Prop}(hC:∀j (hj:j<G[x].length),∀y:Nat,G[x][j]=(y:Int)→C y) {y:Nat}(hxy:E x y):C y:=by
 obtain⟨_,j,hj,h1⟩:=h.of hxy
 exact hC j hj y h1
theorem part_cycle {n:Nat}{E:Nat→Nat→Prop}{P:Nat→Int}(hP:∀x y,x<n→y<n→(P x=P y↔Scc E x y)) (hE:∀x y,E x y→x<n∧y<n) {x:Nat}(hx:x<n) :
  Cyc E x↔1<((List.range n).filter fun y=>P y=P x).length∨E x x:=by
 rw[Cyc.iff,or_comm]
 have key:(∃y,y≠x∧Scc E x y)↔1<((List.range n).filter fun y=>P y=P x).length:=by
  constructor
  ·rintro⟨y,hne,hs⟩
   have hy:y<n:=by
    have:=hs.2
    cases this with
    | refl=>exact hx
    | step h _=>exact (hE _ _ h).1
   have h1:x∈(List.range n).filter fun y=>P y=P x:=by simp[hx]
   have h2:y∈(List.range n).filter fun y=>P y=P x:=by simp[hy,((hP x y hx hy).2 hs).symm]
   generalize (List.range n).filter (fun y=>decide (P y=P x))=l at h1 h2
   match l,h1,h2 with
   | [z],h1,h2=>simp at h1 h2;exact absurd (h2.trans h1.symm) hne
   | _::_::_,_,_=>simp
  ·intro hlt
   have hnd:((List.range n).filter fun y=>P y=P x).Nodup:=List.Pairwise.filter _ List.nodup_range
   have hm:∀y∈(List.range n).filter fun y=>P y=P x,y<n∧P y=P x:=by simp
   generalize (List.range n).filter (fun y=>decide (P y=P x))=l at hlt hnd hm
   match l,hlt,hnd,hm with
   | u::v::_,_,hnd,hm=>
    have huv:u≠v:=by
     intro e;subst e;simp at hnd
    have hu:=hm u (by simp)
    have hv:=hm v (by simp)
    by_cases e:u=x
    ·exact⟨v,fun e2=>huv (e.trans e2.symm),(hP x v hx hv.1).1 hv.2.symm⟩
    ·exact⟨u,e,(hP x u hx hu.1).1 hu.2.symm⟩
 rw[key]
def Aut.E (a:Aut) (x y:Nat):Prop:=∃e∈a.edges,e.frm=x∧e.to=y
theorem Aut.E_lt {a:Aut}(ha:a.Ok) (x y:Nat) (h:a.E x y):x<a.acc.length∧y<a.acc.length:=by
 obtain⟨e,he,h1,h2⟩:=h
 have:=ha.2.2.2 e he
 unfold Tr.Ok at this
 omega
def Aut.Reach (a:Aut) (q:Nat):Prop:=∃s:Nat,(s:Int)∈a.init∧Rch a.E s q
def Aut.Live (a:Aut) (q:Nat):Prop:=∃t,Rch a.E q t∧Cyc a.E t∧tru a.acc t
def kidx (K:Nat→Bool) (q:Nat):Nat:=((List.range q).filter K).length
theorem kidx_succ {K:Nat→Bool}{q:Nat}:kidx K (q+1)=kidx K q+if K q then 1 else 0:=by
 simp only[kidx,List.range_succ,List.filter_append,List.length_append,List.filter_cons,List.filter_nil]
 split<;>simp
theorem kidx_le {K:Nat→Bool}{q:Nat}:kidx K q≤q:=by
 have:=List.length_filter_le K (List.range q)
 simpa[kidx] using this
def Tr.ren (f:Int→Int) (e:Tr):Tr:=⟨f e.frm,e.care,e.value,f e.to⟩
def kout (K:Nat→Bool) (x:Int):Int:=kidx K x.toNat
def Aut.keep (a:Aut) (K:Nat→Bool):Aut:=
 if kidx K a.acc.length=0 then ⟨[],[false],[]⟩ else
  ⟨(a.init.filter fun q=>K q.toNat).map (kout K),((List.range a.acc.length).filter K).map fun q=>a.acc.getD q false,
   (a.edges.filter fun e=>K e.frm.toNat&&K e.to.toNat).map (Tr.ren (kout K))⟩
theorem incr_map {n m:Int}{K:Nat→Bool}:∀{lo lo':Int}{l:List Int},incr n lo l→(∀x∈l,K x.toNat=true)→-1≤lo→(0≤lo→lo'<kidx K (lo.toNat+1))→(lo<0→lo'<0)→(∀x∈l,(kidx K (x.toNat+1):Int)≤m)→incr m lo' (l.map (kout K))
 | lo,lo',[],_,_,_,_,_,_=>trivial
 | lo,lo',x::l,h,hK,h0,h1,h2,hm=>by
  have hx:=hK x (by simp)
  have hlx:=h.1
  have mono:∀p q:Nat,p≤q→kidx K p≤kidx K q:=by
   intro p q hpq
   induction hpq with
   | refl=>exact Nat.le_refl _
   | step _ ih=>rw[kidx_succ];omega
  have hs:=kidx_succ (K:=K) (q:=x.toNat)
  rw[if_pos hx] at hs
  have hmx:=hm x (by simp)
  refine⟨?_,?_,incr_map h.2.2 (fun y hy=>hK y (by simp[hy])) (by omega) (fun _=>?_) (fun hneg=>?_) (fun y hy=>hm y (by simp[hy]))⟩
  ·unfold kout
   by_cases hl:0≤lo
   ·have:=h1 hl
    have:=mono (lo.toNat+1) x.toNat (by omega)
    omega
   ·have:=h2 (by omega);omega
  ·unfold kout;omega
  ·unfold kout;omega
  ·omega
theorem incr_filter {n:Int}{p:Int→Bool}:∀{lo:Int}{l:List Int},incr n lo l→incr n lo (l.filter p)
 | _,[],_=>trivial
 | lo,x::l,h=>by
  have weak:∀{lo lo':Int}{l:List Int},lo'≤lo→incr n lo l→incr n lo' l:=by
   intro lo lo' l hle h
   cases l with
   | nil=>trivial
   | cons y l=>exact⟨by have:=h.1;omega,h.2.1,h.2.2⟩
  by_cases hp:p x=true
  ·rw[List.filter_cons_of_pos hp];exact⟨h.1,h.2.1,incr_filter h.2.2⟩
  ·rw[List.filter_cons_of_neg hp];exact weak (by have:=h.1;omega) (incr_filter h.2.2)
theorem kidx_mono {K:Nat→Bool}{p q:Nat}(hpq:p≤q):kidx K p≤kidx K q:=by
 induction hpq with
 | refl=>exact Nat.le_refl _
 | step _ ih=>rw[kidx_succ];omega
theorem kout_lt {K:Nat→Bool}{n:Nat}{x:Int}(h0:0≤x) (hx:x<n) (hK:K x.toNat=true):kout K x<kidx K n:=by
 have h1:=kidx_succ (K:=K) (q:=x.toNat)
 rw[if_pos hK] at h1
 have h2:=kidx_mono (K:=K) (show x.toNat+1≤n by omega)
 unfold kout;omega
theorem Aut.keep_len {a:Aut}{K:Nat→Bool}(h:kidx K a.acc.length≠0):(a.keep K).acc.length=kidx K a.acc.length:=by
 unfold Aut.keep
 rw[if_neg h]
 simp[kidx]
theorem Aut.keep_ok {a:Aut}(ha:a.Ok) (K:Nat→Bool):(a.keep K).Ok:=by
 by_cases h0:kidx K a.acc.length=0
 ·simp[Aut.keep,h0,Aut.Ok,incr]
 have hl:=Aut.keep_len h0
 have hn:=ha.n
 refine⟨?_,?_,?_,?_⟩
 ·rw[hl]
  have:=kidx_le (K:=K) (q:=a.acc.length)
  omega
 ·simp only[Aut.keep,h0,if_false,List.length_map]
  exact Nat.le_trans (List.length_filter_le _ _) ha.e
 ·rw[hl]
  simp only[Aut.keep,h0,if_false]
  refine incr_map (incr_filter ha.i) (fun x hx=>(List.mem_filter.1 hx).2) (by omega) (by omega) (by omega) ?_
  intro x hx
  have h1:=incr_mem ha.i x (List.mem_filter.1 hx).1
  have:=kidx_mono (K:=K) (show x.toNat+1≤a.acc.length by omega)
  omega
 ·rw[hl]
  simp only[Aut.keep,h0,if_false]
  intro t ht
  obtain⟨e,he,rfl⟩:=List.mem_map.1 ht
  obtain⟨he,hk⟩:=List.mem_filter.1 he
  simp only[Bool.and_eq_true] at hk
  have h1:=ha.2.2.2 e he
  unfold Tr.Ok at h1 ⊢
  have h2:=kout_lt h1.1 h1.2.1 hk.1
  have h3:=kout_lt h1.2.2.1 h1.2.2.2.1 hk.2
  simp only[Tr.ren]
  refine⟨?_,h2,?_,h3,h1.2.2.2.2⟩<;>(unfold kout;omega)
noncomputable def Aut.tkeep (a:Aut):Nat→Bool:=fun q=>@decide (a.Reach q∧a.Live q) (Classical.propDecidable _)
noncomputable def Aut.trim (a:Aut):Aut:=a.keep a.tkeep
structure NextI (a:Aut) (k:Nat) (G:List (List Int)):Prop where
 len:G.length=a.acc.length
 mem:∀x (hx:x<G.length) z,z∈G[x]↔∃e∈a.edges.take k,e.frm=x∧e.to=z
 le:∀x (hx:x<G.length),G[x].length≤k
theorem NextI.zero {a:Aut}:NextI a 0 (List.replicate a.acc.length []):=⟨by simp,by simp,by simp⟩
theorem NextI.step {a:Aut}{k:Nat}{G:List (List Int)}(h:NextI a k G) (hk:k<a.edges.length) {f t:Nat}(hf:a.edges[k].frm=f) (ht:a.edges[k].to=t) (hfG:f<G.length):NextI a (k+1) (G.set f (G[f]++[(t:Int)])):=by
 refine⟨by simp[h.len],?_,?_⟩
 ·intro x hx z
  have hx':x<G.length:=by simpa using hx
  rw[List.getElem_set,List.take_add_one,List.getElem?_eq_getElem hk]
  simp only[Option.toList_some,List.mem_append,List.mem_singleton]
  by_cases e:f=x
  ·subst e
   simp only[if_true,List.mem_append,List.mem_singleton,h.mem f hx']
   constructor
   ·rintro (⟨e,h1,h2⟩ | rfl)
    ·exact⟨e,.inl h1,h2⟩
    ·exact⟨_,.inr rfl,hf,ht⟩
   ·rintro⟨e,h1 | rfl,h2,h3⟩
    ·exact .inl ⟨e,h1,h2,h3⟩
    ·exact .inr (by rw[← h3,ht])
  ·rw[if_neg e,h.mem x hx']
   constructor
   ·rintro⟨e,h1,h2⟩;exact⟨e,.inl h1,h2⟩
   ·rintro⟨e',h1 | rfl,h2,h3⟩
    ·exact⟨e',h1,h2,h3⟩
    ·rw[hf] at h2;omega
 ·intro x hx
  have hx':x<G.length:=by simpa using hx
  rw[List.getElem_set]
  have:=h.le x hx'
  split
  ·rename_i e;subst e;simp;omega
  ·omega
theorem NextI.skip {a:Aut}{k:Nat}{G:List (List Int)}(h:NextI a k G) (hk:k<a.edges.length) {f t:Nat}(hf:a.edges[k].frm=f) (ht:a.edges[k].to=t) (hfG:f<G.length) (hm:(t:Int)∈G[f]):NextI a (k+1) G:=by
 refine⟨h.len,?_,fun x hx=>by have:=h.le x hx;omega⟩
 intro x hx z
 rw[List.take_add_one,List.getElem?_eq_getElem hk,h.mem x hx]
 simp only[Option.toList_some,List.mem_append,List.mem_singleton]
 constructor
 ·rintro⟨e,h1,h2⟩;exact⟨e,.inl h1,h2⟩
 ·rintro⟨e',h1 | rfl,h2,h3⟩
  ·exact⟨e',h1,h2,h3⟩
  ·rw[hf] at h2
   obtain rfl:f=x:=by omega
   rw[← h3,ht]
   exact (h.mem f hfG _).1 hm
theorem NextI.done {a:Aut}{k:Nat}{G:List (List Int)}(ha:a.Ok) (h:NextI a k G) (hk:a.edges.length≤k):Adj a.E G:=by
 refine⟨fun x y hxy=>by rw[h.len];exact a.E_lt ha x y hxy,fun x hx z=>?_⟩
 rw[h.mem x hx,List.take_of_length_le hk]
 constructor
 ·rintro⟨e,he,h1,h2⟩
  have h3:=ha.2.2.2 e he
  unfold Tr.Ok at h3
  exact⟨e.to.toNat,by omega,e,he,h1,by omega⟩
 ·rintro⟨y,rfl,e,he,h1,h2⟩
  exact⟨e,he,h1,h2⟩
theorem incr_iff {n:Int}:∀{lo:Int}{l:List Int},incr n lo l↔l.Pairwise (· < ·)∧∀x∈l,lo<x∧x<n
 | lo,[]=>by simp[incr]
 | lo,x::l=>by
  rw[show incr n lo (x::l)↔lo<x∧x<n∧incr n x l from Iff.rfl,incr_iff,List.pairwise_cons]
  constructor
  ·rintro⟨h1,h2,h3,h4⟩
   refine⟨⟨fun y hy=>(h4 y hy).1,h3⟩,fun y hy=>?_⟩
   rcases List.mem_cons.1 hy with rfl | hy
   ·exact⟨h1,h2⟩
   ·have:=h4 y hy;omega
  ·rintro⟨⟨h1,h2⟩,h3⟩
   exact⟨(h3 x (by simp)).1,(h3 x (by simp)).2,h2,fun y hy=>⟨h1 y hy,(h3 y (by simp[hy])).2⟩⟩
theorem pairwise_ext:∀{l l':List Int},l.Pairwise (· < ·)→l'.Pairwise (· < ·)→(∀x,x∈l↔x∈l')→l=l'
 | [],[],_,_,_=>rfl
 | [],y::l',_,_,h=>by have:=(h y).2 (by simp);simp at this
 | x::l,[],_,_,h=>by have:=(h x).1 (by simp);simp at this
 | x::l,y::l',h1,h2,h=>by
  rw[List.pairwise_cons] at h1 h2
  have hxy:x=y:=by
   have a1:=(h x).1 (by simp)
   have a2:=(h y).2 (by simp)
   rcases List.mem_cons.1 a1 with a1 | a1
   ·exact a1
   ·rcases List.mem_cons.1 a2 with a2 | a2
    ·exact a2.symm
    ·have b1:=h2.1 x a1
     have b2:=h1.1 y a2
     omega
  subst hxy
  congr 1
  refine pairwise_ext h1.2 h2.2 fun z=>?_
  constructor
  ·intro hz
   rcases List.mem_cons.1 ((h z).1 (by simp[hz])) with rfl | h3
   ·have:=h1.1 z hz;omega
   ·exact h3
  ·intro hz
   rcases List.mem_cons.1 ((h z).2 (by simp[hz])) with rfl | h3
   ·have:=h2.1 z hz;omega
   ·exact h3
theorem incr_ext {n:Int}{lo lo':Int}{l l':List Int}(h:incr n lo l) (h':incr n lo' l') (hm:∀x,x∈l↔x∈l'):l=l':=
 pairwise_ext (incr_iff.1 h).1 (incr_iff.1 h').1 hm
def memL (K:Nat→Bool) (i:Nat):List Int:=((List.range i).filter K).map fun (q:Nat)=>(q:Int)
theorem memL_succ {K:Nat→Bool}{i:Nat}:memL K (i+1)=memL K i++if K i then [(i:Int)] else []:=by
 simp only[memL,List.range_succ,List.filter_append,List.map_append,List.filter_cons,List.filter_nil]
 congr 1
 split<;>simp
theorem memL_mem {K:Nat→Bool}{i:Nat}{x:Int}:x∈memL K i↔∃q:Nat,x=q∧q<i∧K q=true:=by
 simp only[memL,List.mem_map,List.mem_filter,List.mem_range]
 constructor
 ·rintro⟨q,⟨h1,h2⟩,rfl⟩;exact⟨q,rfl,h1,h2⟩
 ·rintro⟨q,rfl,h1,h2⟩;exact⟨q,⟨h1,h2⟩,rfl⟩
theorem memL_incr {K:Nat→Bool}{n:Nat}:∀{i:Nat},i≤n→incr n (-1) (memL K i)
 | 0,_=>trivial
 | i+1,h=>by
  rw[memL_succ]
  have ih:=incr_iff.1 (memL_incr (K:=K) (n:=n) (i:=i) (by omega))
  split
  ·rw[incr_iff,List.pairwise_append]
   refine⟨⟨ih.1,List.pairwise_singleton _ _,fun x hx y hy=>?_⟩,fun x hx=>?_⟩
   ·obtain⟨q,rfl,hq,_⟩:=memL_mem.1 hx
    have:y=i:=by simpa using hy
    omega
   ·rcases List.mem_append.1 hx with hx | hx
    ·exact ih.2 x hx
    ·have:x=i:=by simpa using hx
     omega
  ·simpa using incr_iff.2 ih
def Aut.beg (a:Aut) (q:Nat):Prop:=(q:Int)∈a.init∧a.Live q
def Aut.aft (a:Aut) (S:Nat→Prop) (letter:Int) (t:Nat):Prop:=a.Live t∧∃e∈a.edges,S e.frm.toNat∧e.to=t∧e.on letter=true
def Aut.behind (a:Aut) (w:List Int):Nat→Prop:=w.foldl a.aft a.beg
theorem foldl_take {α β:Type}{f:β→α→β}{b:β}{l:List α}{i:Nat}(hi:i<l.length):(l.take (i+1)).foldl f b=f ((l.take i).foldl f b) l[i]:=by
 rw[List.take_add_one,List.getElem?_eq_getElem hi,List.foldl_append];rfl
noncomputable def Aut.states (a:Aut) (w:List Int):List Int:=memL (fun q=>@decide (a.behind w q) (Classical.propDecidable _)) a.acc.length
theorem Aut.states_incr {a:Aut}{w:List Int}:incr a.acc.length (-1) (a.states w):=memL_incr (Nat.le_refl _)
theorem Aut.states_eq {a:Aut}{w:List Int}{l:List Int}(h:incr a.acc.length (-1) l) (hm:∀q:Nat,(q:Int)∈l↔q<a.acc.length∧a.behind w q):l=a.states w:=by
 refine incr_ext h a.states_incr fun x=>?_
 rw[Aut.states,memL_mem]
 simp only[decide_eq_true_eq]
 constructor
 ·intro hx
  have:=incr_mem h x hx
  obtain⟨q,rfl⟩:∃q:Nat,x=q:=⟨x.toNat,by omega⟩
  exact⟨q,rfl,(hm q).1 hx⟩
 ·rintro⟨q,rfl,h1,h2⟩
  exact (hm q).2 ⟨h1,h2⟩
def Wok (w:List Int):Prop:=w.length≤200∧∀x∈w,0≤x∧x≤7
instance (w:List Int):Decidable (Wok w):=by unfold Wok;infer_instance
structure InsI (l:List Int) (y:Int) (i:Nat) (dn:Bool) (o:List Int):Prop where
 no:∀j (hj:j<l.length),j<i→l[j]≠y
 len:o.length≤i+1
 ff:dn=false→o=l.take i∧∀x∈l.take i,x<y
 tt:dn=true→∃k,k≤i∧o=l.take k++y::(l.take i).drop k∧(∀x∈l.take k,x<y)∧∀x∈l.drop k,y<x
theorem InsI.zero {l:List Int}{y:Int}:InsI l y 0 false []:=⟨by simp,by simp,by simp,by simp⟩
theorem InsI.big {l:List Int}{y:Int}{i:Nat}{o:List Int}(hp:l.Pairwise (· < ·)) (h:InsI l y i false o) (hi:i<l.length) (hy:y<l[i]):InsI l y (i+1) true (o++[y]++[l[i]]):=by
 obtain⟨h1,h2⟩:=h.ff rfl
 have hl:=h.len
 refine⟨?_,?_,by simp,fun _=>⟨i,by omega,?_,h2,?_⟩⟩
 ·intro j hj hji
  by_cases e:j=i
  ·subst e;omega
  ·exact h.no j hj (by omega)
 ·rw[h1];simp;omega
 ·rw[h1,List.take_add_one,List.getElem?_eq_getElem hi,List.drop_append,List.drop_take]
  simp[Nat.min_eq_left (Nat.le_of_lt hi)]
 ·intro x hx
  rw[List.drop_eq_getElem_cons hi] at hx
  rcases List.mem_cons.1 hx with rfl | hx
  ·exact hy
  ·have h3:l=l.take (i+1)++l.drop (i+1):=(List.take_append_drop _ _).symm
   rw[h3,List.pairwise_append] at hp
   have h4:=hp.2.2 l[i] (by rw[List.take_add_one,List.getElem?_eq_getElem hi];exact List.mem_append_right _ (by simp)) x hx
   omega
theorem InsI.more {l:List Int}{y:Int}{i:Nat}{o:List Int}(h:InsI l y i true o) (hi:i<l.length) (hy:l[i]≠y):InsI l y (i+1) true (o++[l[i]]):=by
 obtain⟨k,h1,h2,h3,h4⟩:=h.tt rfl
 refine⟨?_,?_,by simp,fun _=>⟨k,by omega,?_,h3,h4⟩⟩
 ·intro j hj hji
  by_cases e:j=i
  ·subst e;exact hy
  ·exact h.no j hj (by omega)
 ·rw[h2];simp;omega
 ·rw[h2,List.take_add_one,List.getElem?_eq_getElem hi,List.drop_append_of_le_length (by simp;omega)]
  simp
theorem InsI.small {l:List Int}{y:Int}{i:Nat}{o:List Int}(h:InsI l y i false o) (hi:i<l.length) (hy:l[i]<y):InsI l y (i+1) false (o++[l[i]]):=by
 obtain⟨h1,h2⟩:=h.ff rfl
 refine⟨?_,?_,fun _=>⟨?_,?_⟩,by simp⟩
 ·intro j hj hji
  by_cases e:j=i
  ·subst e;omega
  ·exact h.no j hj (by omega)
 ·rw[h1];simp;omega
 ·rw[h1,List.take_add_one,List.getElem?_eq_getElem hi];simp
 ·intro x hx
  rw[List.take_add_one,List.getElem?_eq_getElem hi] at hx
  rcases List.mem_append.1 hx with hx | hx
  ·exact h2 x hx
  ·have:x=l[i]:=by simpa using hx
   omega
theorem InsI.result {n:Int}{lo:Int}{l:List Int}{y:Int}{i:Nat}{dn:Bool}{o:List Int}(hl:incr n lo l) (hy:lo<y∧y<n) (h:InsI l y i dn o) (hi:l.length≤i):incr n lo (if dn then o else o++[y])∧∀x,x∈(if dn then o else o++[y])↔x∈l∨x=y:=by
 obtain⟨g1,g2⟩:=incr_iff.1 hl
 cases dn with
 | false=>
  obtain⟨h1,h2⟩:=h.ff rfl
  rw[List.take_of_length_le hi] at h1 h2
  subst h1
  simp only[Bool.false_eq_true,if_false,incr_iff,List.pairwise_append,List.mem_append,List.mem_singleton]
  refine⟨⟨⟨g1,List.pairwise_singleton _ _,fun a ha b hb=>hb▸h2 a ha⟩,fun x hx=>?_⟩,fun _=>trivial⟩
  rcases hx with hx | rfl
  ·exact g2 x hx
  ·exact hy
 | true=>
  obtain⟨k,_,h2,h3,h4⟩:=h.tt rfl
  rw[List.take_of_length_le hi] at h2
  have h5:l=l.take k++l.drop k:=(List.take_append_drop _ _).symm
  have hm:∀x,x∈o↔x∈l∨x=y:=by
   intro x
   rw[h2,List.mem_append,List.mem_cons]
   conv=>rhs;rw[h5,List.mem_append]
   constructor
   ·rintro (h | h | h)
    ·exact .inl (.inl h)
    ·exact .inr h
    ·exact .inl (.inr h)
   ·rintro ((h | h) | h)
    ·exact .inl h
    ·exact .inr (.inr h)
    ·exact .inr (.inl h)
  simp only[if_true]
  refine⟨incr_iff.2 ⟨?_,fun x hx=>?_⟩,hm⟩
  ·rw[h5,List.pairwise_append] at g1
   rw[h2,List.pairwise_append,List.pairwise_cons]
   refine⟨g1.1,⟨h4,g1.2.1⟩,fun a ha b hb=>?_⟩
   rcases List.mem_cons.1 hb with rfl | hb
   ·exact h3 a ha
   ·exact g1.2.2 a ha b hb
  ·rcases (hm x).1 hx with hx | rfl
   ·exact g2 x hx
   ·exact hy
def EdgeB (es:List Tr) (i l j:Nat):Prop:=∃e∈es,e.frm=i∧e.to=j∧e.on l=true
def Tab (es:List Tr) (n:Nat) (T:List W8):Prop:=T.length=n∧∀i l k,i<n→l<8→k<64→(((T.getD i W8.zero).at l).getLsbD k=true↔EdgeB es i l k)
def Tab2 (es:List Tr) (e:Tr) (m:Nat) (n:Nat) (T:List W8):Prop:=T.length=n∧∀i l k,i<n→l<8→k<64→(((T.getD i W8.zero).at l).getLsbD k=true↔EdgeB es i l k∨(l<m∧e.frm=i∧e.to=k∧e.on l=true))
theorem Tab.zero (n:Nat):Tab [] n (List.replicate n W8.zero):=by
 refine⟨by simp,fun i l k hi hl hk=>?_⟩
 have h1:(List.replicate n W8.zero).getD i W8.zero=W8.zero:=by
  rw[List.getD_eq_getElem?_getD,List.getElem?_replicate];split<;>rfl
 rw[h1]
 have h2:W8.zero.at l=0:=by
  simp only[W8.at,W8.zero,List.getD_eq_getElem?_getD,List.getElem?_replicate];split<;>rfl
 rw[h2]
 simp[EdgeB]
theorem Tab.start {es:List Tr}{n:Nat}{T:List W8}(h:Tab es n T) (e:Tr):Tab2 es e 0 n T:=
 ⟨h.1,fun i l k hi hl hk=>by rw[h.2 i l k hi hl hk];simp⟩
theorem Tab2.skip {es:List Tr}{n m:Nat}{T:List W8}{e:Tr}(h:Tab2 es e m n T) (ho:e.on m=false):Tab2 es e (m+1) n T:=by
 refine⟨h.1,fun i l k hi hl hk=>?_⟩
 rw[h.2 i l k hi hl hk]
 by_cases hm:l=m
 ·subst hm;simp[ho]
 ·have:l<m↔l<m+1:=by omega
  rw[this]
theorem Tab2.put {es:List Tr}{n m:Nat}{T:List W8}{e:Tr}(h:Tab2 es e m n T) (ho:e.on m=true) (hm:m<8) {f t:Nat}(hf:e.frm=f) (ht:e.to=t) (hfn:f<n) (htn:t<64) :
  Tab2 es e (m+1) n (T.set f ((T[f]'(h.1▸hfn)).put m (setB ((T[f]'(h.1▸hfn)).at m) t))):=by
 have hfl:f<T.length:=h.1▸hfn
 refine⟨by simpa using h.1,fun i l k hi hl hk=>?_⟩
 have h1:=h.2 i l k hi hl hk
 rw[List.getD_eq_getElem?_getD,List.getElem?_set]
 rw[List.getD_eq_getElem?_getD] at h1
 by_cases hfi:f=i
 ·subst hfi
  simp only[hfl,List.getElem?_eq_getElem,Option.getD_some,if_true] at h1 ⊢
  rw[W8.put_at _ hm]
  by_cases hlm:l=m
  ·subst hlm
   rw[if_pos rfl,setB_get htn]
   simp only[Bool.or_eq_true,h1,decide_eq_true_eq]
   have:l<l+1:=by omega
   constructor
   ·rintro ((h2 | h2) | h2)
    ·exact .inl h2
    ·omega
    ·exact .inr ⟨this,hf,by rw[ht,h2],ho⟩
   ·rintro (h2 | ⟨_,_,h2,_⟩)
    ·exact .inl (.inl h2)
    ·exact .inr (by rw[ht] at h2;omega)
  ·rw[if_neg hlm,h1]
   have:l<m↔l<m+1:=by omega
   rw[this]
 ·rw[if_neg hfi,h1]
  constructor
  ·rintro (h2 | ⟨h3,h4,h5⟩)
   ·exact .inl h2
   ·exact .inr ⟨by omega,h4,h5⟩
  ·rintro (h2 | ⟨h3,h4,h5⟩)
   ·exact .inl h2
   ·rw[hf] at h4;omega
theorem Tab2.done {es:List Tr}{n:Nat}{T:List W8}{k:Nat}(hk:k<es.length) (h:Tab2 (es.take k) es[k] 8 n T):Tab (es.take (k+1)) n T:=by
 refine⟨h.1,fun i l j hi hl hj=>?_⟩
 rw[h.2 i l j hi hl hj,List.take_add_one,List.getElem?_eq_getElem hk]
 simp only[EdgeB,List.mem_append,Option.toList_some,List.mem_singleton]
 constructor
 ·rintro (⟨e,h1,h2⟩ | ⟨_,h2⟩)
  ·exact⟨e,.inl h1,h2⟩
  ·exact⟨_,.inr rfl,h2⟩
 ·rintro⟨e,h1 | rfl,h2⟩
  ·exact .inl ⟨e,h1,h2⟩
  ·exact .inr ⟨hl,h2⟩
def grpS (e:Nat→Nat→Bool):Nat→List Nat×Nat
 | 0=>([],0)
 | i+1=>match (List.range i).find? (fun k=>e i k) with
  | some k=>((grpS e i).1++[(grpS e i).1.getD k 0],(grpS e i).2)
  | none=>((grpS e i).1++[(grpS e i).2],(grpS e i).2+1)
theorem grpS_old {e:Nat→Nat→Bool}{i k:Nat}(h:(List.range i).find? (fun k=>e i k)=some k):grpS e (i+1)=((grpS e i).1++[(grpS e i).1.getD k 0],(grpS e i).2):=by simp[grpS,h]
theorem grpS_new {e:Nat→Nat→Bool}{i:Nat}(h:(List.range i).find? (fun k=>e i k)=none):grpS e (i+1)=((grpS e i).1++[(grpS e i).2],(grpS e i).2+1):=by simp[grpS,h]
theorem find_lt {p:Nat→Bool}{i k:Nat}(h:(List.range i).find? p=some k):k<i:=by
 have:=List.mem_of_find?_eq_some h
 simpa using this
theorem grpS_len {e:Nat→Nat→Bool}:∀i,(grpS e i).1.length=i
 | 0=>rfl
 | i+1=>by
  cases h:(List.range i).find? (fun k=>e i k) with
  | some k=>rw[grpS_old h];simp[grpS_len i]
  | none=>rw[grpS_new h];simp[grpS_len i]
theorem grpS_le {e:Nat→Nat→Bool}:∀i,(grpS e i).2≤i
 | 0=>Nat.le_refl _
 | i+1=>by
  have:=grpS_le (e:=e) i
  cases h:(List.range i).find? (fun k=>e i k) with
  | some k=>rw[grpS_old h];exact Nat.le_succ_of_le this
  | none=>rw[grpS_new h];exact Nat.succ_le_succ this
theorem grpS_pos {e:Nat→Nat→Bool}:∀i,1≤i→1≤(grpS e i).2
 | 0,h=>by omega
 | i+1,_=>by
  cases h:(List.range i).find? (fun k=>e i k) with
  | some k=>
   rw[grpS_old h]
   exact grpS_pos i (by have:=find_lt h;omega)
  | none=>rw[grpS_new h];exact Nat.succ_le_succ (Nat.zero_le _)
theorem grpS_lt {e:Nat→Nat→Bool}:∀i,∀x∈(grpS e i).1,x<(grpS e i).2
 | 0,x,hx=>by simp[grpS] at hx
 | i+1,x,hx=>by
  cases h:(List.range i).find? (fun k=>e i k) with
  | some k=>
   have hk:=find_lt h
   rw[grpS_old h] at hx ⊢
   rcases List.mem_append.1 hx with hx | hx
   ·exact grpS_lt i x hx
   ·obtain rfl:x=(grpS e i).1.getD k 0:=by simpa using hx
    have hl:=grpS_len (e:=e) i
    rw[List.getD_eq_getElem?_getD,List.getElem?_eq_getElem (by omega)]
    exact grpS_lt i _ (List.getElem_mem (by omega))
  | none=>
   rw[grpS_new h] at hx ⊢
   rcases List.mem_append.1 hx with hx | hx
   ·have:=grpS_lt i x hx
    show x<(grpS e i).2+1
    omega
   ·obtain rfl:x=(grpS e i).2:=by simpa using hx
    exact Nat.lt_succ_self _
def accG (a:Aut) (e:Nat→Nat→Bool):Nat→List Bool
 | 0=>[]
 | i+1=>match (List.range i).find? (fun k=>e i k) with
  | some _=>accG a e i
  | none=>accG a e i++[a.acc.getD i false]
theorem accG_len {a:Aut}{e:Nat→Nat→Bool}:∀i,(accG a e i).length=(grpS e i).2
 | 0=>rfl
 | i+1=>by
  cases h:(List.range i).find? (fun k=>e i k) with
  | some k=>rw[grpS_old h];simp[accG,h,accG_len i]
  | none=>rw[grpS_new h];simp[accG,h,accG_len i]
def ded (l:List Tr):List Tr:=l.foldl (fun o f=>if f∈o then o else o++[f]) []
theorem ded_mem {l:List Tr}{x:Tr}:x∈ded l↔x∈l:=by
 have key:∀(l o:List Tr),x∈l.foldl (fun o f=>if f∈o then o else o++[f]) o↔x∈o∨x∈l:=by
  intro l
  induction l with
  | nil=>simp
  | cons y l ih=>
   intro o
   rw[List.foldl_cons,ih]
   by_cases h:y∈o
   ·rw[if_pos h]
    constructor
    ·rintro (h1 | h1)
     ·exact .inl h1
     ·exact .inr (by simp[h1])
    ·rintro (h1 | h1)
     ·exact .inl h1
     ·rcases List.mem_cons.1 h1 with rfl | h1
      ·exact .inl h
      ·exact .inr h1
   ·rw[if_neg h]
    simp[or_assoc]
 have:=key l []
 simpa[ded] using this
theorem ded_len {l:List Tr}:(ded l).length≤l.length:=by
 have key:∀(l o:List Tr),(l.foldl (fun o f=>if f∈o then o else o++[f]) o).length≤o.length+l.length:=by
  intro l
  induction l with
  | nil=>simp
  | cons y l ih=>
   intro o
   rw[List.foldl_cons]
   refine Nat.le_trans (ih _) ?_
   split<;>simp<;>omega
 have:=key l []
 simpa[ded] using this
def gnm (e:Nat→Nat→Bool) (n:Nat) (x:Int):Int:=((grpS e n).1.getD x.toNat 0:Nat)
theorem gnm_lt {e:Nat→Nat→Bool}{n:Nat}{x:Int}(h0:0≤x) (h1:x<n):0≤gnm e n x∧gnm e n x<(grpS e n).2:=by
 have hl:=grpS_len (e:=e) n
 have hx:x.toNat<(grpS e n).1.length:=by omega
 have:=grpS_lt (e:=e) n _ (List.getElem_mem hx)
 unfold gnm
 rw[List.getD_eq_getElem?_getD,List.getElem?_eq_getElem hx]
 simp only[Option.getD_some]
 omega
def Aut.mergeE (a:Aut) (e:Nat→Nat→Bool):Aut:=
 ⟨memL (fun b=>a.init.any fun q=>decide (gnm e a.acc.length q=(b:Int))) (grpS e a.acc.length).2,accG a e a.acc.length,ded (a.edges.map (Tr.ren (gnm e a.acc.length)))⟩
theorem Aut.mergeE_ok {a:Aut}(ha:a.Ok) (e:Nat→Nat→Bool):(a.mergeE e).Ok:=by
 have hn:=ha.n
 have h1:=grpS_le (e:=e) a.acc.length
 have h2:=grpS_pos (e:=e) a.acc.length hn.1
 have h3:=accG_len (a:=a) (e:=e) a.acc.length
 have h4:=ded_len (l:=a.edges.map (Tr.ren (gnm e a.acc.length)))
 simp only[List.length_map] at h4
 have h5:=ha.e
 refine⟨⟨by show 1≤(accG a e a.acc.length).length;omega,by show (accG a e a.acc.length).length≤64;omega⟩,Nat.le_trans h4 h5,?_,?_⟩
 ·show incr ((accG a e a.acc.length).length:Nat) (-1) _
  rw[h3]
  exact memL_incr (Nat.le_refl _)
 ·intro t ht
  show t.Ok ((accG a e a.acc.length).length:Nat)
  rw[h3]
  have ht:t∈ded (a.edges.map (Tr.ren (gnm e a.acc.length))):=ht
  rw[ded_mem] at ht
  obtain⟨x,hx,rfl⟩:=List.mem_map.1 ht
  have hx2:=ha.2.2.2 x hx
  unfold Tr.Ok at hx2 ⊢
  have g1:=gnm_lt (e:=e) hx2.1 hx2.2.1
  have g2:=gnm_lt (e:=e) hx2.2.2.1 hx2.2.2.2.1
  simp only[Tr.ren]
  exact⟨g1.1,g1.2,g2.1,g2.2,hx2.2.2.2.2⟩
def eqv (R:Rl):Nat→Nat→Bool:=fun i k=>R i k&&R k i
noncomputable def Aut.mrg (a:Aut):Aut:=a.mergeE (eqv (@Classical.epsilon Rl ⟨fun _ _=>true⟩ (Great a)))
theorem Aut.mrg_ok {a:Aut}(ha:a.Ok):a.mrg.Ok:=Aut.mergeE_ok ha _
end Go.Proofs.YtedbaenahnfhfaaGreat
