/-
  Texts of this proof, one behind the other.
-/
import Derived.LaidMore
import Derived.MakeChecks
import Derived.ChangeVars
import Derived.WalkKit
import Derived.BigCall
import Derived.Shelf.Strings.Builder1
import Derived.Shelf.Strings.Builder2
import Derived.Shelf.Strings.OnBuilder
import Derived.Shelf.Strconv.Itoa0
import Derived.Shelf.Strconv.Itoa1
import Derived.Shelf.LaysM
import Derived.Shelf.Strconv.Itoa2
import Derived.Shelf.Strconv.Itoa3
import Derived.Test.YtjbjnicobdpdhaaDoorRows
import Derived.Test.YtjbjnicobdpdhaaDoorYF3
set_option linter.all false
set_option linter.unusedVariables false
set_option linter.unusedSimpArgs false
set_option linter.defProp false
set_option maxRecDepth 1000000
namespace Go.Proofs.YtjbjnicobdpdhaaDoor
open Go
theorem c_IndexFunc_impl_Edge {h:Heap}{a fv:Value}{x:List (Ed)}(Ra:Rep h a x) {f:FuncId}{c1 c2:List Value}(hf:fnOf fv=some (f,c1,c2)) (p:(Ed)→Bool)
  (hp:∀h1,h.le h1→∀(i:Nat) (hi:i<x.length) (u:Value),Rep h1 u x[i]→CallE Tryd.prog f (c1++u::c2) h1 (fun v h'=>h1.le h'∧v=.bool (p x[i]))) :
  CallE Tryd.prog fn_slices_IndexFunc_S_impl_Edge_impl_Edge [a,fv] h (fun v h'=>h.le h'∧v=.int .i64 (match x.findIdx? p with | some i=>(i:Int) | none=>-1)):=by
 refine CallE.gen fun k hk=>EN_slices_IndexFunc_S_impl_Edge_impl_Edge rfl ?_
 have hL:=Ra.lt
 simp -implicitDefEqProofs (disch:=first|omega|(simp only[LnZ];omega))[wrap64,Ra.len]
 refine wp_count x.length (fun i e h'=>e=[some a,some fv,none,none,some (.int .i64 x.length),some (.int .i64 i)]∧h.le h'∧∀(j:Nat) (hj:j<x.length),j<i→p x[j]=false) ⟨rfl,Heap.le.refl h,fun j _ hj=>absurd hj (Nat.not_lt_zero j)⟩ ?_
 rintro J i _ h1 hJ hi ⟨rfl,hl,hn⟩
 simp -implicitDefEqProofs (disch:=omega)[wrap64]
 refine IteW.mk (fun hlt=>?_) (fun hge=>?_)
 ·have hlx:i<x.length:=by omega
  obtain⟨u,hu,Ru⟩:=(Ra.le hl).ld hlx
  change hload _ (some (elp 10 a i)) (some 10)=some u at hu
  simp -implicitDefEqProofs (disch:=first|omega|(simp only[LnZ];omega))[wrap64,(Ra.le hl).X (n:=10) rfl,hu,hf]
  refine (hp h1 hl i hlx u Ru).go ?_
  rintro _ h2 ⟨hl2,rfl⟩
  simp -implicitDefEqProofs (disch:=omega)[wrap64]
  refine IteW.mk (fun hq=>?_) (fun hq=>?_)
  ·simp -implicitDefEqProofs (disch:=omega)[wrap64]
   refine RetK.keep (hk _ _ ⟨hl.trans hl2,?_⟩)
   have h3:x.findIdx? p=some i:=by
    rw[List.findIdx?_eq_some_iff_getElem]
    exact⟨hlx,hq,fun j hj=>by rw[hn j (by omega) hj];simp⟩
   rw[h3]
  ·simp -implicitDefEqProofs (disch:=omega)[wrap64]
   refine hJ _ _ hlx ⟨rfl,hl.trans hl2,fun j hj hji=>?_⟩
   by_cases hji2:j=i
   ·subst hji2;simpa using hq
   ·exact hn j hj (by omega)
 ·simp -implicitDefEqProofs (disch:=omega)[wrap64]
  refine RetK.keep (hk _ _ ⟨hl,?_⟩)
  have h3:x.findIdx? p=none:=by
   rw[List.findIdx?_eq_none_iff]
   intro y hy
   obtain⟨j,hj,rfl⟩:=List.mem_iff_getElem.1 hy
   exact hn j hj (by omega)
  rw[h3]
theorem c_ContainsFunc_impl_Edge {h:Heap}{a fv:Value}{x:List (Ed)}(Ra:Rep h a x) {f:FuncId}{c1 c2:List Value}(hf:fnOf fv=some (f,c1,c2)) (p:(Ed)→Bool)
  (hp:∀h1,h.le h1→∀(i:Nat) (hi:i<x.length) (u:Value),Rep h1 u x[i]→CallE Tryd.prog f (c1++u::c2) h1 (fun v h'=>h1.le h'∧v=.bool (p x[i]))) :
  CallE Tryd.prog fn_slices_ContainsFunc_S_impl_Edge_impl_Edge [a,fv] h (fun v h'=>h.le h'∧v=.bool (x.any p)):=by
 refine CallE.gen fun k hk=>EN_slices_ContainsFunc_S_impl_Edge_impl_Edge rfl ?_
 simp -implicitDefEqProofs (disch:=omega)[wrap64]
 refine (c_IndexFunc_impl_Edge Ra hf p hp).go ?_
 rintro _ h1 ⟨hl,rfl⟩
 simp -implicitDefEqProofs (disch:=omega)[wrap64]
 refine RetK.keep (hk _ _ ⟨hl,?_⟩)
 congr 1
 rw[← List.findIdx?_isSome]
 cases x.findIdx? p<;>simp
theorem c_ExprNodes {h:Heap}{v:Value}{x:Exq}(R:Rep h v x):CallE Tryd.prog fn_impl_ExprNodes [v] h (fun u h'=>h.le h'∧u=.int .i64 (if x.Ok then (x.nod:Int) else 0)):=by
 have F:=R.aExq
 refine CallE.gen fun k hk=>EN_impl_ExprNodes rfl ?_
 simp -implicitDefEqProofs (disch:=omega)[wrap64]
 refine HS.init.alloc rfl fun b h1 H=>?_
 simp only[cells_int] at H
 simp -implicitDefEqProofs (disch:=omega)[wrap64]
 refine HS.bxst (o:=0) (sz:=1) (u:=.int .i64 0) H rfl rfl rfl rfl (by simp) fun h2 H=>?_
 have H:HS h [bx b [.int .i64 ((0:Nat):Int)]] h2:=H
 simp -implicitDefEqProofs (disch:=first|omega|(simp only[LnZ];omega))[wrap64,F]
 refine (c_walk x (d:=1) rfl R H (by omega) (by omega) (by omega)).go ?_
 rintro _ h3 ⟨n',ok,rfl,H,g1,g2⟩
 have hok:ok=true↔x.Ok:=by rw[g1];simp[Exq.Ok]
 cases ok with
 | true=>
  have e:=g2 rfl
  have ho:=hok.1 rfl
  simp -implicitDefEqProofs (disch:=first|omega|(simp only[LnZ];omega))[wrap64,H.bxld0]
  refine RetK.keep (hk _ _ ⟨H.base,?_⟩)
  rw[if_pos ho,e];simp
 | false=>
  simp -implicitDefEqProofs (disch:=omega)[wrap64]
  refine RetK.keep (hk _ _ ⟨H.base,?_⟩)
  rw[if_neg (fun ho=>by have:=hok.2 ho;simp at this)]
theorem Exq.nod_pos (x:Exq):0<x.nod:=by rw[Exq.nod_eq];omega
theorem c_ExprValid {h:Heap}{v:Value}{x:Exq}(R:Rep h v x):CallE Tryd.prog fn_impl_ExprValid [v] h (fun u h'=>h.le h'∧u=.bool (decide x.Ok)):=by
 have F:=R.aExq
 have hp:=x.nod_pos
 refine CallE.gen fun k hk=>EN_impl_ExprValid rfl ?_
 simp -implicitDefEqProofs (disch:=first|omega|(simp only[LnZ];omega))[wrap64,F]
 refine (c_ExprNodes R).go ?_
 rintro _ h1 ⟨hl,rfl⟩
 simp -implicitDefEqProofs (disch:=omega)[wrap64]
 refine RetK.keep (hk _ _ ⟨hl,?_⟩)
 congr 1
 by_cases e:x.Ok
 ·simp[e];omega
 ·simp[e]
theorem c_EqualFunc_Expr {h:Heap}{a b fv:Value}{x y:List Exq}(Ra:Rep h a x) (Rb:Rep h b y) {f:FuncId}(hf:fnOf fv=some (f,[],[]))
  (hp:∀z∈x,∀{h:Heap}{a b:Value}{w:Exq},Rep h a z→Rep h b w→CallE Tryd.prog f [a,b] h (fun u h'=>h'=h∧u=.bool (decide (z=w)))) :
  CallE Tryd.prog fn_slices_EqualFunc_S_impl_Expr_S_impl_Expr_impl_Expr_impl_Expr [a,b,fv] h (fun u h'=>h'=h∧u=.bool (decide (x=y))):=by
 refine CallE.gen fun k hk=>EN_slices_EqualFunc_S_impl_Expr_S_impl_Expr_impl_Expr_impl_Expr rfl ?_
 have hL:=Ra.lt
 simp -implicitDefEqProofs (disch:=first|omega|(simp only[LnZ];omega))[wrap64,Ra.len,Rb.len]
 refine IteW.mkr (fun hne=>?_) (fun heq=>?_)
 ·simp -implicitDefEqProofs (disch:=omega)[wrap64]
  exact RetK.keep (hk _ _ ⟨rfl,by simp;rintro rfl;exact hne rfl⟩)
 simp -implicitDefEqProofs (disch:=first|omega|(simp only[LnZ];omega))[wrap64,Ra.len]
 refine wp_count x.length (fun i e h'=>h'=h∧e=[none,some b,some fv,none,none,none,none,some a,some (.int .i64 x.length),some (.int .i64 i)]∧x.take i=y.take i) ⟨rfl,by simp[heq],rfl⟩ ?_
 rintro J i _ _ hJ hi ⟨rfl,rfl,hxy⟩
 simp -implicitDefEqProofs (disch:=omega)[wrap64]
 refine IteW.mk (fun hlt=>?_) (fun hge=>?_)
 ·have hly:i<y.length:=by omega
  have hlx:i<x.length:=by omega
  obtain⟨u,hu,Ru⟩:=Ra.ld hlx
  obtain⟨w,hw,Rw⟩:=Rb.ld hly
  change hload _ (some (elp 3 a i)) (some 3)=some u at hu
  change hload _ (some (elp 3 b i)) (some 3)=some w at hw
  simp -implicitDefEqProofs (disch:=first|omega|(simp only[LnZ];omega))[wrap64,Ra.X (n:=3) rfl,Rb.X (n:=3) rfl,hu,hw,Ru.aExq,Rw.aExq,hf]
  refine (hp _ (List.getElem_mem hlx) Ru Rw).go ?_
  rintro _ _ ⟨rfl,rfl⟩
  simp -implicitDefEqProofs (disch:=omega)[wrap64]
  refine IteW.mkr (fun hne=>?_) (fun heq=>?_)
  ·simp -implicitDefEqProofs (disch:=omega)[wrap64]
   exact RetK.keep (hk _ _ ⟨rfl,by simp;rintro rfl;exact hne rfl⟩)
  simp -implicitDefEqProofs (disch:=omega)[wrap64]
  exact hJ _ _ hlx ⟨rfl,rfl,take_step hxy hlx hly heq⟩
 ·simp -implicitDefEqProofs (disch:=omega)[wrap64]
  refine RetK.keep (hk _ _ ⟨rfl,?_⟩)
  simp
  rw[List.take_of_length_le (by omega),List.take_of_length_le (by omega)] at hxy
  exact hxy
theorem c_ExprSame':∀(x:Exq) {h:Heap}{a b:Value}{y:Exq},Rep h a x→Rep h b y→CallE Tryd.prog fn_impl_ExprSame [a,b] h (fun u h'=>h'=h∧u=.bool (decide (x=y))):=by
 refine Exq.ind fun x ih h a b y Ra Rb=>?_
 obtain⟨w,rfl,k1,k2,R1⟩:=Rep_Exq.1 Ra
 obtain⟨w2,rfl,k3,k4,R2⟩:=Rep_Exq.1 Rb
 refine CallE.gen fun k hk=>EN_impl_ExprSame rfl ?_
 by_cases h1:x.kind=y.kind
 case neg=>
  simp -implicitDefEqProofs (disch:=first|omega|(simp only[LnZ];omega))[wrap64,h1]
  exact RetK.keep (hk _ _ ⟨rfl,by simp[Exq.ext_iff',h1]⟩)
 by_cases h2:x.val=y.val
 case neg=>
  simp -implicitDefEqProofs (disch:=first|omega|(simp only[LnZ];omega))[wrap64,h1,h2]
  exact RetK.keep (hk _ _ ⟨rfl,by simp[Exq.ext_iff',h2]⟩)
 simp -implicitDefEqProofs (disch:=first|omega|(simp only[LnZ];omega))[wrap64,h1,h2]
 refine (c_EqualFunc_Expr R1 R2 (f:=fn_impl_ExprSame) rfl ih).go ?_
 rintro _ _ ⟨rfl,rfl⟩
 simp -implicitDefEqProofs (disch:=omega)[wrap64]
 exact RetK.keep (hk _ _ ⟨rfl,by simp[Exq.ext_iff',h1,h2]⟩)
theorem c_ExprSame {x:Exq}{h:Heap}{a b:Value}{y:Exq}(Ra:Rep h a x) (Rb:Rep h b y):CallE Tryd.prog fn_impl_ExprSame [a,b] h (fun u h'=>h'=h∧u=.bool (decide (x=y))):=c_ExprSame' x Ra Rb
theorem rep_zero {h:Heap}:Rep h (.agg #[.int .i64 0,.int .i64 0,.slice none 0 0]) Exq.zero:=Rep_Exq.2 ⟨_,rfl,i64_0,i64_0,(Own_nils.rep.le fun _ _ h=>by simp[Heap.nil] at h)⟩
theorem c_EdgeValid {h:Heap}{v:Value}{e:Ed}(R:Rep h v e) {n:Int}(hn:I64 n):CallE Tryd.prog fn_impl_EdgeValid [v,.int .i64 n] h (fun u h'=>h.le h'∧u=.bool (decide (e.Ok n))):=by
 obtain⟨w1,w2,rfl,ok,R1,R2⟩:=Rep_Ed.1 R
 have G1:Rep h (.agg #[.int .i64 e.guard.kind,.int .i64 e.guard.val,w1]) e.guard:=Rep_Exq.2 ⟨w1,rfl,ok.gk,ok.gv,R1⟩
 have G2:Rep h (.agg #[.int .i64 e.value.kind,.int .i64 e.value.val,w2]) e.value:=Rep_Exq.2 ⟨w2,rfl,ok.vk,ok.vv,R2⟩
 refine CallE.gen fun k hk=>EN_impl_EdgeValid rfl ?_
 have hno:∀{h'},h.le h'→¬e.Ok n→k (.bool false) h':=fun hl hh=>hk _ _ ⟨hl,by rw[decide_eq_false hh]⟩
 have hyes:∀{h'},h.le h'→e.Ok n→k (.bool true) h':=fun hl hh=>hk _ _ ⟨hl,by rw[decide_eq_true hh]⟩
 simp -implicitDefEqProofs (disch:=omega)[wrap64]
 refine c_in.go ?_
 rintro _ _ ⟨rfl,rfl⟩
 by_cases q1:1≤n∧n≤4
 case neg=>simp -implicitDefEqProofs (disch:=first|omega|(simp only[LnZ];omega))[wrap64,q1];exact RetK.keep (hno (Heap.le.refl _) fun hh=>q1 ⟨hh.n1,hh.n4⟩)
 simp -implicitDefEqProofs (disch:=first|omega|(simp only[LnZ];omega))[wrap64,q1,Ed.cs]
 refine c_in.go ?_
 rintro _ _ ⟨rfl,rfl⟩
 by_cases q2:0≤e.frm∧e.frm≤n-1
 case neg=>simp -implicitDefEqProofs (disch:=first|omega|(simp only[LnZ];omega))[wrap64,q2];exact RetK.keep (hno (Heap.le.refl _) fun hh=>q2 ⟨hh.f0,by have:=hh.f1;omega⟩)
 simp -implicitDefEqProofs (disch:=first|omega|(simp only[LnZ];omega))[wrap64,q2,Ed.cs]
 refine c_in.go ?_
 rintro _ _ ⟨rfl,rfl⟩
 by_cases q3:0≤e.to∧e.to≤n-1
 case neg=>simp -implicitDefEqProofs (disch:=first|omega|(simp only[LnZ];omega))[wrap64,q3];exact RetK.keep (hno (Heap.le.refl _) fun hh=>q3 ⟨hh.t0,by have:=hh.t1;omega⟩)
 simp -implicitDefEqProofs (disch:=first|omega|(simp only[LnZ];omega))[wrap64,q3,Ed.cs]
 refine (c_ExprValid G1).go ?_
 rintro _ h1 ⟨l1,rfl⟩
 by_cases q4:e.guard.Ok
 case neg=>simp -implicitDefEqProofs (disch:=first|omega|(simp only[LnZ];omega))[wrap64,q4];exact RetK.keep (hno l1 fun hh=>q4 hh.gd)
 simp -implicitDefEqProofs (disch:=first|omega|(simp only[LnZ];omega))[wrap64,q4,Ed.cs]
 refine c_in.go ?_
 rintro _ _ ⟨rfl,rfl⟩
 by_cases q5:-1≤e.var∧e.var≤2
 case neg=>simp -implicitDefEqProofs (disch:=first|omega|(simp only[LnZ];omega))[wrap64,q5];exact RetK.keep (hno l1 fun hh=>q5 ⟨hh.v0,hh.v1⟩)
 by_cases q6:0≤e.var
 ·simp -implicitDefEqProofs (disch:=first|omega|(simp only[LnZ];omega))[wrap64,q5,q6,Ed.cs]
  refine (c_ExprValid (G2.le l1)).go ?_
  rintro _ h2 ⟨l2,rfl⟩
  by_cases q7:e.value.Ok
  case neg=>simp -implicitDefEqProofs (disch:=first|omega|(simp only[LnZ];omega))[wrap64,q7,q6,Ed.cs,show ¬e.var<0 by omega];exact RetK.keep (hno (l1.trans l2) fun hh=>hh.vl.elim (fun h3=>q7 h3.2) (fun h3=>absurd h3.1 (by omega)))
  simp -implicitDefEqProofs (disch:=first|omega|(simp only[LnZ];omega))[wrap64,q7,Ed.cs]
  refine c_in.go ?_
  rintro _ _ ⟨rfl,rfl⟩
  by_cases q8:-2≤e.sync∧e.sync≤2
  case neg=>simp -implicitDefEqProofs (disch:=first|omega|(simp only[LnZ];omega))[wrap64,q8];exact RetK.keep (hno (l1.trans l2) fun hh=>q8 ⟨hh.s0,hh.s1⟩)
  simp -implicitDefEqProofs (disch:=first|omega|(simp only[LnZ];omega))[wrap64,q8]
  exact RetK.keep (hyes (l1.trans l2) ⟨q1.1,q1.2,q2.1,by omega,q3.1,by omega,q4,q5.1,q5.2,.inl ⟨q6,q7⟩,q8.1,q8.2⟩)
 ·simp -implicitDefEqProofs (disch:=first|omega|(simp only[LnZ];omega))[wrap64,q5,q6,Ed.cs,show e.var<0 by omega]
  refine (c_ExprSame (G2.le l1) rep_zero).go ?_
  rintro _ _ ⟨rfl,rfl⟩
  by_cases q7:e.value=Exq.zero
  case neg=>simp -implicitDefEqProofs (disch:=first|omega|(simp only[LnZ];omega))[wrap64,q7];exact RetK.keep (hno l1 fun hh=>hh.vl.elim (fun h3=>q6 h3.1) (fun h3=>q7 h3.2))
  simp -implicitDefEqProofs (disch:=first|omega|(simp only[LnZ];omega))[wrap64,q7,Ed.cs]
  refine c_in.go ?_
  rintro _ _ ⟨rfl,rfl⟩
  by_cases q8:-2≤e.sync∧e.sync≤2
  case neg=>simp -implicitDefEqProofs (disch:=first|omega|(simp only[LnZ];omega))[wrap64,q8];exact RetK.keep (hno l1 fun hh=>q8 ⟨hh.s0,hh.s1⟩)
  simp -implicitDefEqProofs (disch:=first|omega|(simp only[LnZ];omega))[wrap64,q8]
  exact RetK.keep (hyes l1 ⟨q1.1,q1.2,q2.1,by omega,q3.1,by omega,q4,q5.1,q5.2,.inr ⟨by omega,q7⟩,q8.1,q8.2⟩)
theorem c_valsOk_1 {h:Heap}{n:Int}:CallE Tryd.prog fn_impl_valsOk_1 [.int .i64 n] h (fun u h'=>h'=h∧u=.bool (!decide (0≤n∧n≤3))):=by
 refine CallE.gen fun k hk=>EN_impl_valsOk_1 rfl ?_
 simp -implicitDefEqProofs (disch:=omega)[wrap64]
 refine c_in.go ?_
 rintro _ _ ⟨rfl,rfl⟩
 simp -implicitDefEqProofs (disch:=omega)[wrap64]
 exact RetK.keep (hk _ _ ⟨rfl,by simp⟩)
theorem c_valsOk {h:Heap}{w:Value}{W:List Int}(Rw:Rep h w W):CallE Tryd.prog fn_impl_valsOk [w] h (fun u h'=>h.le h'∧u=.bool (decide (VOk W))):=by
 have hL:=Rw.lt
 refine CallE.gen fun k hk=>EN_impl_valsOk rfl ?_
 by_cases h1:(W.length:Int)=3
 case neg=>
  simp -implicitDefEqProofs (disch:=first|omega|(simp only[LnZ];omega))[wrap64,Rw.len,h1]
  exact RetK.keep (hk _ _ ⟨Heap.le.refl _,by rw[decide_eq_false (fun hh:VOk W=>h1 (by rw[hh.len];rfl))]⟩)
 simp -implicitDefEqProofs (disch:=first|omega|(simp only[LnZ];omega))[wrap64,Rw.len,h1]
 refine (c_ContainsFunc_int Rw (c1:=[]) (c2:=[]) (f:=fn_impl_valsOk_1) rfl (fun n=>!decide (0≤n∧n≤3)) ?_).go ?_
 ·intro h3 hl j hj u Ru
  obtain⟨rfl,_⟩:=Rep_int.1 Ru
  exact (c_valsOk_1 (n:=W[j])).to fun _ _ ⟨h4,h5⟩=>⟨h4▸Heap.le.refl _,h5⟩
 ·rintro _ h3 ⟨hl,rfl⟩
  simp -implicitDefEqProofs (disch:=omega)[wrap64]
  refine RetK.keep (hk _ _ ⟨hl,?_⟩)
  congr 1
  rw[Bool.eq_iff_iff]
  have:W.length=3:=by omega
  simp[VOk,this]
theorem c_SystemValid_1 {h:Heap}{v:Value}{e:Ed}{b:Nat}{n:Int}(R:Rep h v e) (hn:I64 n) (hb:hload h (some (.pointer (some ⟨b,0,none⟩))) none=some (.int .i64 n)) :
  CallE Tryd.prog fn_impl_SystemValid_1 [v,.pointer (some ⟨b,0,none⟩)] h (fun u h'=>h.le h'∧u=.bool (!decide (e.Ok n))):=by
 have F:=R.aEd
 refine CallE.gen fun k hk=>EN_impl_SystemValid_1 rfl ?_
 simp -implicitDefEqProofs (disch:=first|omega|(simp only[LnZ];omega))[wrap64,F,hb]
 refine (c_EdgeValid R hn).go ?_
 rintro _ h1 ⟨l1,rfl⟩
 simp -implicitDefEqProofs (disch:=omega)[wrap64]
 exact RetK.keep (hk _ _ ⟨l1,rfl⟩)
theorem c_SystemValid {h:Heap}{v:Value}{s:Sy}(R:Rep h v s):CallE Tryd.prog fn_impl_SystemValid [v] h (fun u h'=>h.le h'∧u=.bool (decide s.Ok)):=by
 obtain⟨v1,v2,rfl,R1,R2⟩:=Rep_Sy.1 R
 have hL:=R2.lt
 refine CallE.gen fun k hk=>EN_impl_SystemValid rfl ?_
 have hno:∀{h'},h.le h'→¬s.Ok→k (.bool false) h':=fun hl hh=>hk _ _ ⟨hl,by rw[decide_eq_false hh]⟩
 simp -implicitDefEqProofs (disch:=omega)[wrap64]
 refine (c_valsOk R1).go ?_
 rintro _ h1 ⟨l1,rfl⟩
 by_cases q1:VOk s.init
 case neg=>simp -implicitDefEqProofs (disch:=first|omega|(simp only[LnZ];omega))[wrap64,q1];exact RetK.keep (hno l1 fun hh=>q1 hh.vs)
 simp -implicitDefEqProofs (disch:=first|omega|(simp only[LnZ];omega))[wrap64,q1,R2.len]
 refine c_in.go ?_
 rintro _ _ ⟨rfl,rfl⟩
 by_cases q2:(1:Int)≤s.procs.length∧(s.procs.length:Int)≤3
 case neg=>simp -implicitDefEqProofs (disch:=first|omega|(simp only[LnZ];omega))[wrap64,q2];exact RetK.keep (hno l1 fun hh=>q2 ⟨by have:=hh.p1;omega,by have:=hh.p3;omega⟩)
 simp -implicitDefEqProofs (disch:=first|omega|(simp only[LnZ];omega))[wrap64,q2,R2.len]
 refine wp_count s.procs.length (fun i e h'=>h.le h'∧e=[none,none,none,none,some v2,some (.int .i64 s.procs.length),some (.int .i64 i)]∧∀p∈s.procs.take i,p.Ok) ⟨l1,by simp,by simp⟩ ?_
 rintro J i _ h2 hJ hi ⟨l2,rfl,hall⟩
 simp -implicitDefEqProofs (disch:=omega)[wrap64]
 refine IteW.mk (fun hlt=>?_) (fun hge=>?_)
 ·have hlx:i<s.procs.length:=by omega
  obtain⟨u,hu,Ru⟩:=(R2.le l2).ld hlx
  change hload _ (some (elp 2 v2 i)) (some 2)=some u at hu
  obtain⟨w,rfl,k1,R3⟩:=Rep_Pr.1 Ru
  have hw1:=R3.cells
  have hw2:=R3.one
  have hel:=R3.lt
  simp -implicitDefEqProofs (disch:=first|omega|(simp only[LnZ];omega))[wrap64,R2.X (n:=2) rfl,hu]
  refine HS.init.alloc rfl fun b h3 H=>?_
  simp -implicitDefEqProofs (disch:=omega)[wrap64]
  refine HS.bxst (o:=0) (sz:=2) H rfl rfl rfl (by simp[hw2]) (by simp) fun h4 H=>?_
  have H:HS h2 [bx b [.int .i64 s.procs[i].locs,w]] h4:=H
  have l4:=l2.trans H.base
  have hb0:=H.bxld (o:=0) (u:=.int .i64 s.procs[i].locs) rfl
  have hb1:=H.bxld (o:=1) (u:=w) rfl
  simp -implicitDefEqProofs (disch:=first|omega|(simp only[LnZ];omega))[wrap64,hb0]
  refine c_in.go ?_
  rintro _ _ ⟨rfl,rfl⟩
  by_cases q3:1≤s.procs[i].locs∧s.procs[i].locs≤4
  case neg=>simp -implicitDefEqProofs (disch:=first|omega|(simp only[LnZ];omega))[wrap64,q3,hb1,(R3.on H).len];exact RetK.keep (hno l4 fun hh=>q3 ⟨(hh.at hlx).n1,(hh.at hlx).n4⟩)
  by_cases q4:(6:Int)<s.procs[i].edges.length
  ·simp -implicitDefEqProofs (disch:=first|omega|(simp only[LnZ];omega))[wrap64,q3,q4,hb1,(R3.on H).len];exact RetK.keep (hno l4 fun hh=>by have:=(hh.at hlx).el;omega)
  simp -implicitDefEqProofs (disch:=first|omega|(simp only[LnZ];omega))[wrap64,q3,q4,hb1,(R3.on H).len]
  refine (c_ContainsFunc_impl_Edge (R3.on H) (c1:=[]) (c2:=[.pointer (some ⟨b,0,none⟩)]) (f:=fn_impl_SystemValid_1) rfl (fun e=>!decide (e.Ok s.procs[i].locs)) ?_).go ?_
  ·intro h5 hl5 j hj u Ru
   exact c_SystemValid_1 Ru k1 (hload_le hl5 hb0)
  ·rintro _ h5 ⟨l5,rfl⟩
   have hex:s.procs[i].edges.any (fun e=>!decide (e.Ok s.procs[i].locs))=false↔s.procs[i].Ok:=by
    simp only[List.any_eq_false,Bool.not_eq_true,Bool.not_eq_false',decide_eq_true_iff]
    exact⟨fun hh=>⟨q3.1,q3.2,by omega,hh⟩,fun hh=>hh.ed⟩
   by_cases q5:s.procs[i].Ok
   ·simp -implicitDefEqProofs (disch:=first|omega|(simp only[LnZ];omega))[wrap64,hex.2 q5]
    refine hJ _ _ hlx ⟨l4.trans l5,by simp,fun p hp=>?_⟩
    rw[List.take_add_one,List.getElem?_eq_getElem hlx] at hp
    rcases List.mem_append.1 hp with hp | hp
    ·exact hall p hp
    ·simp at hp;subst hp;exact q5
   ·have hf:s.procs[i].edges.any (fun e=>!decide (e.Ok s.procs[i].locs))=true:=by
     cases hh:s.procs[i].edges.any (fun e=>!decide (e.Ok s.procs[i].locs)) with
     | true=>rfl
     | false=>exact absurd (hex.1 hh) q5
    simp -implicitDefEqProofs (disch:=first|omega|(simp only[LnZ];omega))[wrap64,hf]
    exact RetK.keep (hno (l4.trans l5) fun hh=>q5 (hh.at hlx))
 ·simp -implicitDefEqProofs (disch:=omega)[wrap64]
  rw[List.take_of_length_le (by omega)] at hall
  exact RetK.keep (hk _ _ ⟨l2,by rw[decide_eq_true (show s.Ok from ⟨q1,by omega,by omega,hall⟩)]⟩)
theorem c_l1Arity {h:Heap}{n:Int}:CallE Tryd.prog fn_spec_l1Arity [.int .i64 n] h (fun u h'=>h'=h∧u=.int .i64 (Exq.arity n)):=by
 refine CallE.gen fun k hk=>EN_spec_l1Arity rfl ?_
 by_cases c1:n=1
 ·simp -implicitDefEqProofs (disch:=first|omega|(simp only[LnZ];omega))[wrap64,c1]
  exact RetK.keep (hk _ _ ⟨rfl,by simp[Exq.arity,c1]⟩)
 by_cases c2:n=2
 ·simp -implicitDefEqProofs (disch:=first|omega|(simp only[LnZ];omega))[wrap64,c1,c2]
  exact RetK.keep (hk _ _ ⟨rfl,by simp[Exq.arity,c2]⟩)
 by_cases c3:n=3
 ·simp -implicitDefEqProofs (disch:=first|omega|(simp only[LnZ];omega))[wrap64,c1,c2,c3]
  exact RetK.keep (hk _ _ ⟨rfl,by simp[Exq.arity,c3]⟩)
 by_cases c4:4≤n
 case neg=>
  simp -implicitDefEqProofs (disch:=first|omega|(simp only[LnZ];omega))[wrap64,c1,c2,c3,c4]
  exact RetK.keep (hk _ _ ⟨rfl,by simp[Exq.arity,c1,c2,c3,c4]⟩)
 by_cases c5:n≤9
 case neg=>
  simp -implicitDefEqProofs (disch:=first|omega|(simp only[LnZ];omega))[wrap64,c1,c2,c3,c4,c5]
  exact RetK.keep (hk _ _ ⟨rfl,by simp[Exq.arity,c1,c2,c3,c4,c5]⟩)
 simp -implicitDefEqProofs (disch:=first|omega|(simp only[LnZ];omega))[wrap64,c1,c2,c3,c4,c5]
 exact RetK.keep (hk _ _ ⟨rfl,by simp[Exq.arity,c1,c2,c3,c4,c5]⟩)
noncomputable instance {n:Nat}{x:Exq}:Decidable (x.Shp n):=Classical.propDecidable _
theorem c_l1Shape:∀(n:Nat) {x:Exq}{h:Heap}{v:Value}{dv:Int},dv=n→n≤6→Rep h v x→CallE Tryd.prog fn_spec_l1Shape [v,.int .i64 dv] h (fun u h'=>h'=h∧u=.bool (decide (x.Shp n))):=by
 intro n
 induction n with
 | zero=>
  intro x h v dv hd _ R
  have hd:dv=0:=hd
  obtain⟨w,rfl,k1,k2,R1⟩:=Rep_Exq.1 R
  refine CallE.gen fun k hk=>EN_spec_l1Shape rfl ?_
  simp -implicitDefEqProofs (disch:=first|omega|(simp only[LnZ];omega))[wrap64,hd]
  exact RetK.keep (hk _ _ ⟨rfl,by rw[decide_eq_false (fun hh:x.Shp 0=>hh)]⟩)
 | succ n ih=>
  intro x h v dv hd hd6 R
  obtain⟨w,rfl,k1,k2,R1⟩:=Rep_Exq.1 R
  have hL:=R1.lt
  obtain⟨ln,hln⟩:∃ln:Int,ln=x.kids.length:=⟨_,rfl⟩
  have hlen:=R1.len
  rw[← hln] at hlen
  refine CallE.gen fun k hk=>EN_spec_l1Shape rfl ?_
  have hno:¬x.Shp (n+1)→k (.bool false) h:=fun hh=>hk _ _ ⟨rfl,by rw[decide_eq_false hh]⟩
  simp -implicitDefEqProofs (disch:=first|omega|(simp only[LnZ];omega))[wrap64,hlen,show ¬dv<1 by omega]
  refine c_l1Arity.go ?_
  rintro _ h ⟨rfl,rfl⟩
  by_cases q1:ln=Exq.arity x.kind
  case neg=>simp -implicitDefEqProofs (disch:=first|omega|(simp only[LnZ];omega))[wrap64,q1];exact RetK.keep (hno fun hh=>q1 (by rw[hln];exact hh.1.ar))
  have hm:(x.kind=1∧Exq.most x.kind=3)∨(x.kind=2∧Exq.most x.kind=2)∨((¬x.kind=1∧¬x.kind=2)∧Exq.most x.kind=0):=by
   unfold Exq.most
   by_cases c1:x.kind=1
   ·exact .inl ⟨c1,by simp[c1]⟩
   by_cases c2:x.kind=2
   ·exact .inr (.inl ⟨c2,by simp[c2]⟩)
   ·exact .inr (.inr ⟨⟨c1,c2⟩,by simp[c1,c2]⟩)
  rcases hm with ⟨c1,hmo⟩ | ⟨c1,hmo⟩ | ⟨c1,hmo⟩
  all_goals
   by_cases q2:x.val<0
   ·simp -implicitDefEqProofs (disch:=first|omega|(simp only[LnZ];omega))[wrap64,q1,c1,q2];exact RetK.keep (hno fun hh=>by have:=hh.1.lo;omega)
   by_cases q3:Exq.most x.kind<x.val
   ·rw[hmo] at q3
    simp -implicitDefEqProofs (disch:=first|omega|(simp only[LnZ];omega))[wrap64,q1,c1,q2,q3];exact RetK.keep (hno fun hh=>by have:=hh.1.hi;omega)
   rw[hmo] at q3
   simp -implicitDefEqProofs (disch:=first|omega|(simp only[LnZ];omega))[wrap64,q1,c1,q2,q3]
   refine wp_count x.kids.length (fun i e h'=>h'=h∧(∃kd:Int,kd=x.kind∧e=[none,some (.int .i64 dv),some (.agg #[.int .i64 kd,.int .i64 x.val,w]),none,none,some (.int .i64 i),none])∧∀y∈x.kids.take i,y.Shp n) ⟨rfl,⟨_,rfl,by simp[c1]⟩,by simp⟩ ?_
   rintro J i _ _ hJ hi ⟨rfl,⟨kd,hkd,rfl⟩,hall⟩
   simp -implicitDefEqProofs (disch:=first|omega|(simp only[LnZ];omega))[wrap64,R1.len]
   refine IteW.mk (fun hlt=>?_) (fun hge=>?_)
   ·have hlx:i<x.kids.length:=by omega
    obtain⟨u,hu,Ru⟩:=R1.ld hlx
    change hload _ (some (elp 3 w i)) (some 3)=some u at hu
    simp -implicitDefEqProofs (disch:=first|omega|(simp only[LnZ];omega))[wrap64,R1.X (n:=3) rfl,hu]
    refine (ih (dv:=dv-1) (by omega) (by omega) Ru).go ?_
    rintro _ _ ⟨rfl,rfl⟩
    by_cases q4:x.kids[i].Shp n
    case neg=>simp -implicitDefEqProofs (disch:=first|omega|(simp only[LnZ];omega))[wrap64,q4];exact RetK.keep (hno fun hh=>q4 (hh.kid hlx))
    simp -implicitDefEqProofs (disch:=first|omega|(simp only[LnZ];omega))[wrap64,q4]
    refine hJ _ _ hlx ⟨rfl,⟨kd,hkd,by simp⟩,fun y hy=>?_⟩
    rw[List.take_add_one,List.getElem?_eq_getElem hlx] at hy
    rcases List.mem_append.1 hy with hy | hy
    ·exact hall y hy
    ·simp at hy;subst hy;exact q4
   ·simp -implicitDefEqProofs (disch:=omega)[wrap64]
    rw[List.take_of_length_le (by omega)] at hall
    refine RetK.keep (hk _ _ ⟨rfl,?_⟩)
    rw[decide_eq_true (show x.Shp (n+1) from ⟨⟨by omega,by omega,by omega⟩,hall⟩)]
theorem c_l1Count:∀(n:Nat) {x:Exq}{h:Heap}{v:Value}{dv:Int},dv=n→n≤6→x.Shp n→Rep h v x→CallE Tryd.prog fn_spec_l1Count [v,.int .i64 dv] h (fun u h'=>h'=h∧u=.int .i64 x.nod):=by
 intro n
 induction n with
 | zero=>intro x h v dv hd _ hs;exact hs.elim
 | succ n ih=>
  intro x h v dv hd hd6 hs R
  obtain⟨w,rfl,k1,k2,R1⟩:=Rep_Exq.1 R
  have hL:=R1.lt
  have hbnd:=hs.bnd
  have hpow:2^(n+1)≤2^6:=Nat.pow_le_pow_right (by decide) hd6
  have hnod:=x.nod_eq
  refine CallE.gen fun k hk=>EN_spec_l1Count rfl ?_
  simp -implicitDefEqProofs (disch:=omega)[wrap64]
  refine wp_count x.kids.length (fun i e h'=>h'=h∧e=[none,some (.int .i64 dv),some (.agg #[.int .i64 x.kind,.int .i64 x.val,w]),none,some (.int .i64 ((1+Exq.nods (x.kids.take i):Nat):Int)),some (.int .i64 i)]) ⟨rfl,by simp[Exq.nods]⟩ ?_
  rintro J i _ _ hJ hi ⟨rfl,rfl⟩
  by_cases hlt:i<x.kids.length
  ·obtain⟨u,hu,Ru⟩:=R1.ld hlt
   change hload _ (some (elp 3 w i)) (some 3)=some u at hu
   have hn1:=Exq.nods_take hlt
   have hn2:=Exq.nods_le x.kids (i+1)
   simp -implicitDefEqProofs (disch:=first|omega|(simp only[LnZ];omega))[wrap64,hlt,R1.len,R1.X (n:=3) rfl,hu,show 0<dv by omega]
   refine (ih (dv:=dv-1) (by omega) (by omega) (hs.kid hlt) Ru).go ?_
   rintro _ _ ⟨rfl,rfl⟩
   simp -implicitDefEqProofs (disch:=omega)[wrap64]
   refine hJ _ _ hlt ⟨rfl,?_⟩
   simp[hn1];omega
  ·simp -implicitDefEqProofs (disch:=first|omega|(simp only[LnZ];omega))[wrap64,hlt,R1.len]
   rw[List.take_of_length_le (by omega)]
   refine RetK.keep (hk _ _ ⟨rfl,?_⟩)
   rw[hnod];push_cast;rfl
theorem c_spec_ExprValid {h:Heap}{v:Value}{x:Exq}(R:Rep h v x):CallE Tryd.prog fn_spec_ExprValid [v] h (fun u h'=>h'=h∧u=.bool (decide x.Ok)):=by
 have F:=R.aExq
 refine CallE.gen fun k hk=>EN_spec_ExprValid rfl ?_
 simp -implicitDefEqProofs (disch:=first|omega|(simp only[LnZ];omega))[wrap64,F]
 refine (c_l1Shape 6 (dv:=6) rfl (by omega) R).go ?_
 rintro _ _ ⟨rfl,rfl⟩
 by_cases q1:x.Shp 6
 case neg=>simp -implicitDefEqProofs (disch:=first|omega|(simp only[LnZ];omega))[wrap64,q1];exact RetK.keep (hk _ _ ⟨rfl,by rw[decide_eq_false (fun hh:x.Ok=>q1 hh.1)]⟩)
 simp -implicitDefEqProofs (disch:=first|omega|(simp only[LnZ];omega))[wrap64,q1,F]
 refine (c_l1Count 6 (dv:=6) rfl (by omega) q1 R).go ?_
 rintro _ _ ⟨rfl,rfl⟩
 simp -implicitDefEqProofs (disch:=omega)[wrap64]
 refine RetK.keep (hk _ _ ⟨rfl,?_⟩)
 congr 1
 rw[Bool.eq_iff_iff]
 simp[Exq.Ok,q1]
 omega
theorem c_l2None {h:Heap}{v:Value}{x:Exq}(R:Rep h v x):CallE Tryd.prog fn_spec_l2None [v] h (fun u h'=>h'=h∧u=.bool (decide (x=Exq.zero))):=by
 obtain⟨w,rfl,k1,k2,R1⟩:=Rep_Exq.1 R
 have hno:∀{P:Prop},(P→x=Exq.zero→False)→P→x≠Exq.zero:=fun hh hp he=>hh hp he
 refine CallE.gen fun k hk=>EN_spec_l2None rfl ?_
 by_cases q1:x.kind=0
 case neg=>simp -implicitDefEqProofs (disch:=first|omega|(simp only[LnZ];omega))[wrap64,q1];exact RetK.keep (hk _ _ ⟨rfl,by rw[decide_eq_false (fun hh:x=Exq.zero=>q1 (by rw[hh];rfl))]⟩)
 by_cases q2:x.val=0
 case neg=>simp -implicitDefEqProofs (disch:=first|omega|(simp only[LnZ];omega))[wrap64,q1,q2];exact RetK.keep (hk _ _ ⟨rfl,by rw[decide_eq_false (fun hh:x=Exq.zero=>q2 (by rw[hh];rfl))]⟩)
 simp -implicitDefEqProofs (disch:=first|omega|(simp only[LnZ];omega))[wrap64,q1,q2,R1.len]
 refine RetK.keep (hk _ _ ⟨rfl,?_⟩)
 congr 1
 rw[Bool.eq_iff_iff]
 simp[Exq.ext_iff',q1,q2,Exq.zero]
theorem c_spec_EdgeValid {h:Heap}{v:Value}{e:Ed}(R:Rep h v e) {n:Int}:CallE Tryd.prog fn_spec_EdgeValid [v,.int .i64 n] h (fun u h'=>h'=h∧u=.bool (decide (e.Ok n))):=by
 obtain⟨w1,w2,rfl,ok,R1,R2⟩:=Rep_Ed.1 R
 have G1:Rep h (.agg #[.int .i64 e.guard.kind,.int .i64 e.guard.val,w1]) e.guard:=Rep_Exq.2 ⟨w1,rfl,ok.gk,ok.gv,R1⟩
 have G2:Rep h (.agg #[.int .i64 e.value.kind,.int .i64 e.value.val,w2]) e.value:=Rep_Exq.2 ⟨w2,rfl,ok.vk,ok.vv,R2⟩
 refine CallE.gen fun k hk=>EN_spec_EdgeValid rfl ?_
 have hno:¬e.Ok n→k (.bool false) h:=fun hh=>hk _ _ ⟨rfl,by rw[decide_eq_false hh]⟩
 have hyes:e.Ok n→k (.bool true) h:=fun hh=>hk _ _ ⟨rfl,by rw[decide_eq_true hh]⟩
 by_cases a1:e.frm<0
 ·simp -implicitDefEqProofs (disch:=first|omega|(simp only[LnZ];omega))[wrap64,a1,Ed.cs];exact RetK.keep (hno fun hh=>by have:=hh.f0;omega)
 by_cases a2:n≤e.frm
 ·simp -implicitDefEqProofs (disch:=first|omega|(simp only[LnZ];omega))[wrap64,a1,a2,Ed.cs];exact RetK.keep (hno fun hh=>by have:=hh.f1;omega)
 by_cases a3:e.to<0
 ·simp -implicitDefEqProofs (disch:=first|omega|(simp only[LnZ];omega))[wrap64,a1,a2,a3,Ed.cs];exact RetK.keep (hno fun hh=>by have:=hh.t0;omega)
 by_cases a4:n≤e.to
 ·simp -implicitDefEqProofs (disch:=first|omega|(simp only[LnZ];omega))[wrap64,a1,a2,a3,a4,Ed.cs];exact RetK.keep (hno fun hh=>by have:=hh.t1;omega)
 by_cases a5:4<n
 ·simp -implicitDefEqProofs (disch:=first|omega|(simp only[LnZ];omega))[wrap64,a1,a2,a3,a4,a5,Ed.cs];exact RetK.keep (hno fun hh=>by have:=hh.n4;omega)
 simp -implicitDefEqProofs (disch:=first|omega|(simp only[LnZ];omega))[wrap64,a1,a2,a3,a4,a5,Ed.cs]
 refine (c_spec_ExprValid G1).go ?_
 rintro _ _ ⟨rfl,rfl⟩
 by_cases q4:e.guard.Ok
 case neg=>simp -implicitDefEqProofs (disch:=first|omega|(simp only[LnZ];omega))[wrap64,q4];exact RetK.keep (hno fun hh=>q4 hh.gd)
 by_cases b1:e.sync < -2
 ·simp -implicitDefEqProofs (disch:=first|omega|(simp only[LnZ];omega))[wrap64,q4,b1,Ed.cs];exact RetK.keep (hno fun hh=>by have:=hh.s0;omega)
 by_cases b2:2<e.sync
 ·simp -implicitDefEqProofs (disch:=first|omega|(simp only[LnZ];omega))[wrap64,q4,b1,b2,Ed.cs];exact RetK.keep (hno fun hh=>by have:=hh.s1;omega)
 by_cases b3:e.var < -1
 ·simp -implicitDefEqProofs (disch:=first|omega|(simp only[LnZ];omega))[wrap64,q4,b1,b2,b3,Ed.cs];exact RetK.keep (hno fun hh=>by have:=hh.v0;omega)
 by_cases b4:3≤e.var
 ·simp -implicitDefEqProofs (disch:=first|omega|(simp only[LnZ];omega))[wrap64,q4,b1,b2,b3,b4,Ed.cs];exact RetK.keep (hno fun hh=>by have:=hh.v1;omega)
 by_cases q6:e.var<0
 ·simp -implicitDefEqProofs (disch:=first|omega|(simp only[LnZ];omega))[wrap64,q4,b1,b2,b3,b4,q6,Ed.cs]
  refine (c_l2None G2).go ?_
  rintro _ _ ⟨rfl,rfl⟩
  by_cases q7:e.value=Exq.zero
  case neg=>simp -implicitDefEqProofs (disch:=first|omega|(simp only[LnZ];omega))[wrap64,q7,q6,Ed.cs,show ¬0≤e.var by omega];exact RetK.keep (hno fun hh=>hh.vl.elim (fun h3=>by omega) (fun h3=>q7 h3.2))
  simp -implicitDefEqProofs (disch:=first|omega|(simp only[LnZ];omega))[wrap64,q7]
  exact RetK.keep (hyes ⟨by omega,by omega,by omega,by omega,by omega,by omega,q4,by omega,by omega,.inr ⟨q6,q7⟩,by omega,by omega⟩)
 ·simp -implicitDefEqProofs (disch:=first|omega|(simp only[LnZ];omega))[wrap64,q4,b1,b2,b3,b4,q6,Ed.cs,show 0≤e.var by omega]
  refine (c_spec_ExprValid G2).go ?_
  rintro _ _ ⟨rfl,rfl⟩
  by_cases q7:e.value.Ok
  case neg=>simp -implicitDefEqProofs (disch:=first|omega|(simp only[LnZ];omega))[wrap64,q7];exact RetK.keep (hno fun hh=>hh.vl.elim (fun h3=>q7 h3.2) (fun h3=>by omega))
  simp -implicitDefEqProofs (disch:=first|omega|(simp only[LnZ];omega))[wrap64,q7]
  exact RetK.keep (hyes ⟨by omega,by omega,by omega,by omega,by omega,by omega,q4,by omega,by omega,.inl ⟨by omega,q7⟩,by omega,by omega⟩)
theorem c_l1Vals {h:Heap}{w:Value}{W:List Int}(Rw:Rep h w W):CallE Tryd.prog fn_spec_l1Vals [w] h (fun u h'=>h'=h∧u=.bool (decide (VOk W))):=by
 have hL:=Rw.lt
 refine CallE.gen fun k hk=>EN_spec_l1Vals rfl ?_
 simp -implicitDefEqProofs (disch:=omega)[wrap64]
 refine wp_count W.length (fun i e h'=>e=[some w,none,some (.int .i64 i)]∧h'=h∧∀(j:Nat) (hj:j<W.length),j<i→0≤W[j]∧W[j]≤3) ⟨rfl,rfl,fun j _ hj=>absurd hj (Nat.not_lt_zero j)⟩ ?_
 rintro J i _ h1 hJ hi ⟨rfl,rfl,hn⟩
 simp -implicitDefEqProofs (disch:=first|omega|(simp only[LnZ];omega))[wrap64,Rw.len]
 refine IteW.mk (fun hlt=>?_) (fun hge=>?_)
 ·have hlx:i<W.length:=by omega
  have hno:¬(0≤W[i]∧W[i]≤3)→k (.bool false) h1:=fun hx=>hk _ _ ⟨rfl,by rw[decide_eq_false (fun hh:VOk W=>hx (hh.at hlx))]⟩
  by_cases h1:W[i]<0
  ·simp -implicitDefEqProofs (disch:=first|omega|(simp only[LnZ];omega))[wrap64,Rw.I,h1]
   exact RetK.keep (hno (by omega))
  by_cases h2:3<W[i]
  ·simp -implicitDefEqProofs (disch:=first|omega|(simp only[LnZ];omega))[wrap64,Rw.I,h1,h2]
   exact RetK.keep (hno (by omega))
  simp -implicitDefEqProofs (disch:=first|omega|(simp only[LnZ];omega))[wrap64,Rw.I,h1,h2]
  refine hJ _ _ hlx ⟨rfl,rfl,fun j hj hji=>?_⟩
  by_cases hji2:j=i
  ·subst hji2;omega
  ·exact hn j hj (by omega)
 ·simp -implicitDefEqProofs (disch:=first|omega|(simp only[LnZ];omega))[wrap64,Rw.len]
  refine RetK.keep (hk _ _ ⟨rfl,?_⟩)
  congr 1
  rw[Bool.eq_iff_iff,decide_eq_true_iff,decide_eq_true_iff]
  refine⟨fun h3=>⟨by omega,fun x hx=>?_⟩,fun h3=>by have:=h3.len;omega⟩
  obtain⟨j,hj,rfl⟩:=List.mem_iff_getElem.1 hx
  exact hn j hj (by omega)
theorem c_l2Process {h:Heap}{v:Value}{p:Pr}(R:Rep h v p):CallE Tryd.prog fn_spec_l2Process [v] h (fun u h'=>h'=h∧u=.bool (decide p.Ok)):=by
 obtain⟨w,rfl,k1,R1⟩:=Rep_Pr.1 R
 have hL:=R1.lt
 refine CallE.gen fun k hk=>EN_spec_l2Process rfl ?_
 simp -implicitDefEqProofs (disch:=omega)[wrap64]
 refine wp_count p.edges.length (fun i e h'=>e=[none,some (.agg #[.int .i64 p.locs,w]),none,some (.int .i64 i)]∧h'=h∧∀x∈p.edges.take i,x.Ok p.locs) ⟨by simp,rfl,by simp⟩ ?_
 rintro J i _ h1 hJ hi ⟨rfl,rfl,hall⟩
 simp -implicitDefEqProofs (disch:=first|omega|(simp only[LnZ];omega))[wrap64,R1.len]
 refine IteW.mk (fun hlt=>?_) (fun hge=>?_)
 ·have hlx:i<p.edges.length:=by omega
  obtain⟨u,hu,Ru⟩:=R1.ld hlx
  change hload _ (some (elp 10 w i)) (some 10)=some u at hu
  simp -implicitDefEqProofs (disch:=first|omega|(simp only[LnZ];omega))[wrap64,R1.X (n:=10) rfl,hu]
  refine (c_spec_EdgeValid Ru).go ?_
  rintro _ _ ⟨rfl,rfl⟩
  by_cases q:p.edges[i].Ok p.locs
  case neg=>simp -implicitDefEqProofs (disch:=first|omega|(simp only[LnZ];omega))[wrap64,q];exact RetK.keep (hk _ _ ⟨rfl,by rw[decide_eq_false (fun hh:p.Ok=>q (hh.at hlx))]⟩)
  simp -implicitDefEqProofs (disch:=first|omega|(simp only[LnZ];omega))[wrap64,q]
  refine hJ _ _ hlx ⟨by simp,rfl,fun x hx=>?_⟩
  rw[List.take_add_one,List.getElem?_eq_getElem hlx] at hx
  rcases List.mem_append.1 hx with hx | hx
  ·exact hall x hx
  ·simp at hx;subst hx;exact q
 ·simp -implicitDefEqProofs (disch:=omega)[wrap64]
  rw[List.take_of_length_le (by omega)] at hall
  have hno:¬p.Ok→k (.bool false) h1:=fun hx=>hk _ _ ⟨rfl,by rw[decide_eq_false hx]⟩
  by_cases a1:1≤p.locs
  case neg=>simp -implicitDefEqProofs (disch:=first|omega|(simp only[LnZ];omega))[wrap64,a1];exact RetK.keep (hno fun hh=>a1 hh.n1)
  by_cases a2:p.locs≤4
  case neg=>simp -implicitDefEqProofs (disch:=first|omega|(simp only[LnZ];omega))[wrap64,a1,a2];exact RetK.keep (hno fun hh=>a2 hh.n4)
  simp -implicitDefEqProofs (disch:=first|omega|(simp only[LnZ];omega))[wrap64,a1,a2,R1.len]
  refine RetK.keep (hk _ _ ⟨rfl,?_⟩)
  congr 1
  rw[Bool.eq_iff_iff,decide_eq_true_iff,decide_eq_true_iff]
  exact⟨fun h3=>⟨a1,a2,by omega,hall⟩,fun h3=>by have:=h3.el;omega⟩
theorem c_spec_SystemValid {h:Heap}{v:Value}{s:Sy}(R:Rep h v s):CallE Tryd.prog fn_spec_SystemValid [v] h (fun u h'=>h'=h∧u=.bool (decide s.Ok)):=by
 obtain⟨v1,v2,rfl,R0,R1⟩:=Rep_Sy.1 R
 have hL:=R1.lt
 refine CallE.gen fun k hk=>EN_spec_SystemValid rfl ?_
 simp -implicitDefEqProofs (disch:=omega)[wrap64]
 refine wp_count s.procs.length (fun i e h'=>e=[none,some (.agg #[v1,v2]),none,some (.int .i64 i)]∧h'=h∧∀x∈s.procs.take i,x.Ok) ⟨by simp,rfl,by simp⟩ ?_
 rintro J i _ h1 hJ hi ⟨rfl,rfl,hall⟩
 simp -implicitDefEqProofs (disch:=first|omega|(simp only[LnZ];omega))[wrap64,R1.len]
 refine IteW.mk (fun hlt=>?_) (fun hge=>?_)
 ·have hlx:i<s.procs.length:=by omega
  obtain⟨u,hu,Ru⟩:=R1.ld hlx
  change hload _ (some (elp 2 v2 i)) (some 2)=some u at hu
  simp -implicitDefEqProofs (disch:=first|omega|(simp only[LnZ];omega))[wrap64,R1.X (n:=2) rfl,hu]
  refine (c_l2Process Ru).go ?_
  rintro _ _ ⟨rfl,rfl⟩
  by_cases q:s.procs[i].Ok
  case neg=>simp -implicitDefEqProofs (disch:=first|omega|(simp only[LnZ];omega))[wrap64,q];exact RetK.keep (hk _ _ ⟨rfl,by rw[decide_eq_false (fun hh:s.Ok=>q (hh.at hlx))]⟩)
  simp -implicitDefEqProofs (disch:=first|omega|(simp only[LnZ];omega))[wrap64,q]
  refine hJ _ _ hlx ⟨by simp,rfl,fun x hx=>?_⟩
  rw[List.take_add_one,List.getElem?_eq_getElem hlx] at hx
  rcases List.mem_append.1 hx with hx | hx
  ·exact hall x hx
  ·simp at hx;subst hx;exact q
 ·simp -implicitDefEqProofs (disch:=omega)[wrap64]
  rw[List.take_of_length_le (by omega)] at hall
  have hno:¬s.Ok→k (.bool false) h1:=fun hx=>hk _ _ ⟨rfl,by rw[decide_eq_false hx]⟩
  refine (c_l1Vals R0).go ?_
  rintro _ _ ⟨rfl,rfl⟩
  by_cases a0:VOk s.init
  case neg=>simp -implicitDefEqProofs (disch:=first|omega|(simp only[LnZ];omega))[wrap64,a0];exact RetK.keep (hno fun hh=>a0 hh.vs)
  by_cases a1:(1:Int)≤s.procs.length
  case neg=>simp -implicitDefEqProofs (disch:=first|omega|(simp only[LnZ];omega))[wrap64,a0,a1,R1.len];exact RetK.keep (hno fun hh=>a1 (by have:=hh.p1;omega))
  simp -implicitDefEqProofs (disch:=first|omega|(simp only[LnZ];omega))[wrap64,a0,a1,R1.len]
  refine RetK.keep (hk _ _ ⟨rfl,?_⟩)
  congr 1
  rw[Bool.eq_iff_iff,decide_eq_true_iff,decide_eq_true_iff]
  exact⟨fun h3=>⟨a0,by omega,by omega,hall⟩,fun h3=>by have:=h3.p3;omega⟩
def Sta.zero:Sta:=⟨[],[]⟩
theorem Rep.gd {h:Heap}{e:Ed}{w1 w2:Value}(ok:e.ok) (R1:Rep h w1 e.guard.kids):Rep h (.agg #[.int .i64 e.guard.kind,.int .i64 e.guard.val,w1]) e.guard:=Rep_Exq.2 ⟨w1,rfl,ok.gk,ok.gv,R1⟩
theorem Rep.vl {h:Heap}{e:Ed}{w2:Value}(ok:e.ok) (R1:Rep h w2 e.value.kids):Rep h (.agg #[.int .i64 e.value.kind,.int .i64 e.value.val,w2]) e.value:=Rep_Exq.2 ⟨w2,rfl,ok.vk,ok.vv,R1⟩
theorem HS.only {g h:Heap}{Γ:List HP}{p:HP}(H:HS g (p::Γ) h):HS g [p] h:=by
 obtain⟨g',r,e,d,hp,H⟩:=H
 exact⟨g',r,e,d,hp,H.base⟩
def R2 {α:Type} [Ty α] (b:Bool) (y:α) (h:Heap) (u:Value) (h':Heap):Prop:=∃v,u=.tuple #[v,.bool b]∧HS h [ow v y] h'
theorem Rep.cut {α:Type} [Ty α] {h:Heap}{v:Value}{l:List α}(R:Rep h v l) {n esz:Nat}{k:IntKind}(hn:n≤l.length):∃v',sliceVV esz v none (some (some (.int k n))) none=some v'∧Rep h v' (l.take n):=by
 obtain⟨p,cap,rfl,h1,h2,h3⟩:=Rep_list.1 R
 have hl:(l.take n).length=n:=by simp;omega
 have hc:n≤cap:=by omega
 cases n with
 | zero=>
  cases p with
  | none=>
   refine⟨.slice none 0 cap,?_,Rep_list.2 ⟨none,cap,by simp,by simp,trivial,fun i hi=>by simp at hi⟩⟩
   simp[sliceVV,bndV]
  | some a=>
   by_cases hz:cap=0
   ·refine⟨.slice (some a) 0 cap,?_,Rep_list.2 ⟨some a,cap,by simp,by simp,trivial,fun i hi=>by simp at hi⟩⟩
    simp[sliceVV,bndV,hz]
   ·refine⟨.slice (some (a.add 0)) 0 cap,?_,Rep_list.2 ⟨some (a.add 0),cap,by simp,by simp,trivial,fun i hi=>by simp at hi⟩⟩
    simp[sliceVV,bndV,hz]
 | succ n=>
  obtain⟨b,off,vs,rfl,_⟩:=h3 0 (by omega)
  refine⟨.slice (some ⟨b,off,none⟩) (n+1) cap,?_,Rep_list.2 ⟨_,cap,by rw[hl],by rw[hl];omega,trivial,fun i hi=>?_⟩⟩
  ·simp[sliceVV,bndV,add_none]
   rw[if_pos (by omega)]
  ·rw[hl] at hi
   obtain⟨b',off',vs,e1,e2,e3⟩:=h3 i (by omega)
   exact⟨b',off',vs,e1,e2,by simpa using e3⟩
def Dst (l:List Int) (n:Nat):Prop:=∀(i:Nat) (hi:i<l.length),0≤l[i]∧l[i]<n∧l[i]∉l.take i
noncomputable instance instDecDst {l:List Int}{n:Nat}:Decidable (Dst l n):=Classical.propDecidable _
theorem Dst.le {l:List Int}{n:Nat}(h:Dst l n):l.length≤n:=by
 have h1:(l.map Int.toNat).Nodup:=by
  rw[List.nodup_iff_pairwise_ne,List.pairwise_iff_getElem]
  intro i j hi hj hij he
  simp only[List.length_map] at hi hj
  simp only[List.getElem_map] at he
  have a:=h i hi
  have b:=h j hj
  refine b.2.2 ?_
  have e2:l[i]=l[j]:=by omega
  rw[← e2]
  exact List.mem_iff_getElem.2 ⟨i,by simp;omega,by simp⟩
 have h2:(l.map Int.toNat) ⊆ List.range n:=by
  intro x hx
  obtain⟨y,hy,rfl⟩:=List.mem_map.1 hx
  obtain⟨i,hi,rfl⟩:=List.mem_iff_getElem.1 hy
  have:=h i hi
  rw[List.mem_range];omega
 simpa using List.Nodup.length_le_of_subset h1 h2
structure Gr.Ok (g:Gr):Prop where
 n1:1≤g.states.length
 n60:g.states.length≤60
 nl:g.next.length=g.states.length
 vs:∀st∈g.states,VOk st.vals
 nx:∀l∈g.next,l≠[]∧Dst l g.states.length
noncomputable instance instDecGrOk {g:Gr}:Decidable g.Ok:=Classical.propDecidable _
instance instTyU8:Ty (BitVec 8) where
 agg:=false
 sz:=1
 rep:=fun _ cs n=>cs=[.int .u8 n.toNat]
 own:=fun r cs n=>r=Heap.nil∧cs=[.int .u8 n.toNat]
 one:=fun _=>rfl
 len:=by rintro h cs x rfl;rfl
 cell:=by rintro h cs x rfl v hv;simp at hv;subst hv;rfl
 mono:=fun _ hr=>hr
 own_rep:=fun ho=>ho.2
instance instFlatU8:Flat (BitVec 8):=⟨fun n=>[.int .u8 n.toNat],fun _=>True,by simp[Ty.rep],by simp[Ty.own]⟩
abbrev rb (b:Nat) (sl:Value) (p:Int):HP:=bx b [sl,.int .i64 p]
theorem Tx_mk {l:List UInt8}:(⟨l.toArray⟩:ByteArray)=Tx l:=rfl
attribute [simp] Tx_mk Tx_size Tx_add
@[simp] theorem mxA {a b:Nat}(h:a+b<4611686018427387904):(9223372036854775807<(a:Int)+(b:Int))=False:=by
 simp only[eq_iff_iff,iff_false];omega
@[simp] theorem mxD {a:Nat}(h:a+1<4611686018427387904):(9223372036854775807<(a:Int)+1)=False:=by
 simp only[eq_iff_iff,iff_false];omega
@[simp] theorem mxE {a:Nat}(h:a+1<4611686018427387904):(9223372036854775807<1+(a:Int))=False:=by
 simp only[eq_iff_iff,iff_false];omega
@[simp] theorem mxF {a b:Nat}(h:a+b<4611686018427387904):(9223372036854775807<(a:Int)+1+(b:Int))=False:=by
 simp only[eq_iff_iff,iff_false];omega
@[simp] theorem mxB {a b:Nat}(h:a+b<4611686018427387904):(9223372036854775807<(a:Int)+(b:Int)+1)=False:=by
 simp only[eq_iff_iff,iff_false];omega
@[simp] theorem mxC {a b:Nat}(h:a+b<4611686018427387904):(9223372036854775807<1+((a:Int)+(b:Int)))=False:=by
 simp only[eq_iff_iff,iff_false];omega
theorem encB:∀l:List (BitVec 8),encL l=l.map fun x=>Value.int .u8 x.toNat
 | []=>rfl
 | x::l=>by rw[encL_cons,encB l];rfl
theorem HS.bstr {P:Program}{k:Env→Heap→Prop}{e:Env}{h:Heap}{v:Value}{l:List (BitVec 8)}(R:Rep h v l) (t:List UInt8) (ht:(l.map fun x=>(⟨x⟩:UInt8))=t) (hl:0<l.length) {a:O}{dst:Nat}(ha:a.get e=some v) (K:k (eset e dst (some (.string (Tx t)))) h) :
  (A.ex (some dst) (.bstr a)).wp P k e h:=by
 subst ht
 obtain⟨p,cap,rfl,h1,h2,h3⟩:=Rep_list.1 R
 obtain⟨b,off,vs,rfl,_⟩:=h3 0 hl
 have h4:=repL_enc h3
 refine⟨b,off,l.length,cap,l.map fun x=>⟨x⟩,ha,?_,Fgt.keep K⟩
 have e1:l.length*Ty.sz (BitVec 8)=l.length:=Nat.mul_one _
 rw[e1] at h4
 rw[h4]
 congr 1
 rw[List.map_map]
 exact encB l
theorem u8_small {m:Nat}(h:m<256):IntKind.u8.wrap (m:Int)=(m:Int):=by
 simp only[IntKind.wrap,IntKind.bits,IntKind.signed]
 simp
 omega
theorem c_l16Dec {h:Heap}{n:Int}(h0:0≤n) (h9:n≤9):CallE Tryd.prog fn_spec_l16Dec [.int .i64 n] h (fun u h'=>h.le h'∧u=.string (Tx [dg n])):=by
 obtain⟨m,rfl⟩:∃m:Nat,n=m:=⟨n.toNat,by omega⟩
 refine CallE.gen fun k hk=>EN_spec_l16Dec rfl ?_
 have a1:¬(m:Int) < -9223372036854775807:=by omega
 have a2:¬(m:Int)<0:=by omega
 simp -implicitDefEqProofs (disch:=first|omega|(simp only[LnZ];omega))[wrap64,a1,a2]
 refine wp_count 0 (fun i e h'=>e=[some (.int .i64 m),none,some (.string (Tx []))]∧h'=h) ⟨by simp,rfl⟩ ?_
 rintro J i _ h1 hJ hi ⟨rfl,rfl⟩
 have a3:¬9<(m:Int):=by omega
 have a4:IntKind.u8.wrap (48+(m:Int))=((48+m:Nat):Int):=by rw[← u8_small (m:=48+m) (by omega)];rfl
 have a5:(48+m)%256=48+m:=by omega
 simp -implicitDefEqProofs (disch:=first|omega|(simp only[LnZ];omega))[wrap64,a3,a4]
 refine HS.bls (HS.init (h:=h1)) [BitVec.ofNat 8 (48+m)] (by simp[fillP,setC,reps,encL,Flat.enc,a5]) rfl (by simp[Flat.ok]) (by simp) fun v h2 H=>?_
 simp -implicitDefEqProofs (disch:=omega)[wrap64]
 refine HS.bstr H.rep [dg m] rfl (by simp) rfl ?_
 simp -implicitDefEqProofs (disch:=omega)[wrap64]
 exact RetK.keep (hk _ _ ⟨H.base,by simp⟩)
end Go.Proofs.YtjbjnicobdpdhaaDoor

namespace Go.Proofs.YtjbjnicobdpdhaaDoor
open Go Go.RowKit
theorem cell_plain {W:World}{b off s:Nat}{v:Value}(h:W.cell? ⟨b,off,some s⟩=some v):False:=by
 simp only[World.cell?] at h
 split at h<;>simp at h
theorem cell_hcell {W:World}{b off:Nat}{v:Value}(h:W.cell? ⟨b,off,none⟩=some v):hcell (whole W) b off=some v:=by
 simp only[World.cell?,Option.isSome_none,Bool.false_eq_true,if_false] at h
 simp only[hcell,whole]
 split at h
 ·rename_i hb;rw[hb];exact h
 ·simp at h
theorem texts_of_laid {P:Program}{W:World}{t e:TypeId}{g:Nat}{name:String}{sp:Nat→Bool}{held:Bool}{fuel:Nat}{cs:Array Value}{p:List MemPlace}{L:List (List UInt8)}(hg:P.globalNamed name=some g) (hv:W.var? P name=some cs)
  (ht:P.underlying t=some (.slice e)) (hs:P.underlying e=some .string) (hc:P.cellsOf e=1)
  (hd:DataW.trod (fun _=>()) P W 0 sp held fuel t cs.toList=some (.slice (L.map fun s=>.lit (.string s)) [],p)) (hL:L≠[]) (hL2:L.length<4611686018427387904) :
  ∃w,hload (whole W) (some (.pointer (some ⟨g,0,none⟩))) none=some w∧Rep (whole W) w (L.map Tx):=by
 obtain⟨a,cap,hcs,hle,hel⟩:=open_row ht hc hd
 have hll:(L.map fun s=>(DataW.lit (.string s):DataW Unit)).length=L.length:=List.length_map _
 rw[hll] at hcs hle
 have hpos:0<L.length:=List.length_pos_iff.2 hL
 have key:∀i (hi:i<L.length),W.cell? (a.add i)=some (.string (Tx L[i])):=by
  intro i hi
  obtain⟨v,n,q,h1,h2⟩:=hel i (.lit (.string L[i])) (by rw[List.getElem?_map,List.getElem?_eq_getElem hi];rfl)
  obtain⟨s,h3,h4,_⟩:=DataW.trod_string hs h2
  simp only[List.cons.injEq,and_true] at h3
  simp only[Prod.mk.injEq,DataW.lit.injEq,Lit.string.injEq] at h4
  rw[h1,h3,h4.1,Tx_eta]
 obtain⟨b,off,spot⟩:=a
 have h0:spot=none:=by
  cases spot with
  | none=>rfl
  | some s=>
   have:=key 0 hpos
   simp only[Addr.add,if_true] at this
   exact (cell_plain this).elim
 subst h0
 refine⟨.slice (some ⟨b,off,none⟩) L.length cap,?_,Rep_list.2 ⟨some ⟨b,off,none⟩,cap,by rw[List.length_map],⟨by rw[List.length_map];exact hle,by rw[List.length_map];exact hL2⟩,trivial,fun i hi=>?_⟩⟩
 ·have h1:=World.var?_cell hg hv 0
  have h2:cs[0]? = some (.slice (some ⟨b,off,none⟩) L.length cap):=by
   rw[← Array.getElem?_toList,hcs];rfl
  rw[h2] at h1
  exact cell_hcell h1
 ·have hi':i<L.length:=by simpa using hi
  have h1:=key i hi'
  rw[addr_add0] at h1
  have h2:=cell_hcell h1
  refine⟨b,off,[.string (Tx L[i])],rfl,?_,?_⟩
  ·show hcells (whole W) b (off+i*1) 1=_
   rw[Nat.mul_one]
   simp[hcells,h2]
  ·rw[List.getElem_map];rfl
theorem var_below {P:Program}{n:String}{g:Nat}{W W':World}{cs:Array Value}(hg:P.globalNamed n=some g) (h:W.var? P n=some cs) (hb:Below W.heap.size W W'):W'.var? P n=some cs:=by
 simp only[World.var?,hg,Option.bind_some] at h ⊢
 have hlt:g<W.heap.size:=by
  cases e:W.heap[g]? with
  | none=>rw[e] at h;simp at h
  | some o=>exact (Array.getElem?_eq_some_iff.1 e).1
 rw[hb.block g hlt]
 exact h
theorem post_law1 {H:Type}{enc:TypeId×Value→H}{P:Program}{f:Func}{s:ChangeSpec}{W W':World}{args:Array Value}{ds gs:List (DataW H)}{before:List MemPlace}{name:String}{g:Nat}{tv e:TypeId}(hl:laidOutB P=true) (hvars:s.vars=[name]) (hg:P.globalNamed name=some g)
  (htg:(P.globals[g]?).map (·.type)=some tv) (hts:P.underlying tv=some (.slice e)) (htr:P.readableRec tv=true∧tv<P.types.size) (ht:∀t∈f.params.toList,P.readableRec t=true∧t<P.types.size)
  (hr:∃t,f.resultTypes = #[t]∧P.underlying t=some .bool) (hspec:∀d,gs=[d]→(s.fn H (ds++gs)).results=[.lit (.bool true)]∧(s.fn H (ds++gs)).args=ds∧(s.fn H (ds++gs)).vars=[d])
  (hW:DataW.Whole enc P f.params.toList s.vars false W args.toList ds gs before) (hb:Below W.heap.size W W'):s.post enc P f false true false false W args (.bool true) W':=by
 obtain⟨t,ht1,ht2⟩:=hr
 have hW':=hW
 obtain⟨p,q,hA,hV,rfl,hz,hn⟩:=hW
 rw[hvars] at hV
 obtain⟨g',t',cs,fuel,d,q',rfl,hg',htg',hv,hd,rfl⟩:=Go.ChangeShapes.trodVars_one hV
 obtain rfl:=Option.some.inj (hg.symm.trans hg')
 obtain rfl:=Option.some.inj (htg.symm.trans htg')
 obtain⟨h1,h2,h3⟩:=hspec d rfl
 have hlt:=fun x hx=>hW'.lt x hx
 have hone:∃v,cs.toList=[v]∧v.cells.toList=[v]:=by
  rcases Go.Deep.open_slice hts hd with ⟨h0,_⟩ | ⟨a,len,cap,m,n,D,Pl,h0,_⟩
  ·exact⟨_,h0,rfl⟩
  ·exact⟨_,h0,rfl⟩
 obtain⟨v,hv1,hv2⟩:=hone
 have hd':DataW.Trod enc P W 0 (fun _=>true) true tv v d q':=⟨fuel,by rw[hv2,← hv1];exact hd⟩
 obtain⟨fuel',hd2⟩:=Below.trod hl htr.1 htr.2 hd' hb (fun x hx=>by simpa using hlt x (List.mem_append_right _ (List.mem_append_right _ hx)))
 rw[hv2,← hv1] at hd2
 refine⟨ds,[d],p++(MemPlace.row ⟨g,0,none⟩ cs.size++q'),[],p,MemPlace.row ⟨g,0,none⟩ cs.size++q',hW',?_,?_,?_,World.keptBut_mono (fun x hx=>⟨hx,?_⟩) (kept_below hb (fun x=>x∈p++(MemPlace.row ⟨g,0,none⟩ cs.size++q'))),by simp⟩
 ·rw[h1,ht1]
  exact trodAll_cons_mk (shut_bool ht2 _) Go.ChangeShapes.trodAll_mk0
 ·rw[h2]
  exact trodAll_below hl ht hA hb (fun x hx=>by simpa using hlt x (List.mem_append_left _ hx))
 ·rw[h3,hvars]
  exact Go.ChangeShapes.trodVars_mk1 hg htg (var_below hg hv hb) hd2
 ·rcases List.mem_append.1 hx with h | h
  ·exact .inr (.inl h)
  ·exact .inr (.inr h)
theorem laid_mem {P:Program}{W:World}:∀{l:List (String×DataW Unit)}{ps:List MemPlace},DataW.LaidVars P W l ps→∀{n:String}{d:DataW Unit},(n,d)∈l →
  ∃g t cs fuel p,P.globalNamed n=some g∧(P.globals[g]?).map (·.type)=some t∧W.var? P n=some cs∧DataW.trod (fun _=>()) P W 0 (fun _=>true) false fuel t cs.toList=some (d,p)
 | [],_,_,_,_,h=>by simp at h
 | (n0,d0)::r,ps,h,n,d,hm=>by
  obtain⟨g,t,cs,fuel,p,q,h1,h2,h3,h4,h5,_⟩:=h
  rcases List.mem_cons.1 hm with e | hm
  ·obtain⟨rfl,rfl⟩:=Prod.mk.inj e
   exact⟨g,t,cs,fuel,p,h1,h2,h3,h4⟩
  ·exact laid_mem h5 hm
end Go.Proofs.YtjbjnicobdpdhaaDoor

namespace Go.Proofs.YtjbjnicobdpdhaaDoor
open Go Go.RowKit Go.Proofs
theorem calle_below {P:Program}{f:FuncId}{fn:Func}{args:List Value}{h:Heap}{v:Value}(hf:P.funcs[f]? = some fn) (hname:(fn.name == "runtime.NumGoroutine")=false) (hb:fn.body.isSome=true)
  (hc:∀w,h.sub w→Calls P f args.toArray w fun e w'=>e=.returned v∧Below w.heap.size w w'):CallE P f args h (fun u h'=>h'=h∧u=v):=by
 intro w hw
 obtain⟨bd,hbd⟩:=Option.isSome_iff_exists.1 hb
 have hname':¬fn.name = "runtime.NumGoroutine":=by simpa using hname
 have hcall:(callFunc f args.toArray).run P w=.ok (.enter f args.toArray) w:=by
  simp[callFunc,hf,hname',hbd]
 rw[hcall]
 refine Calls.mono (hc w hw) ?_
 rintro e w' ⟨rfl,hB⟩
 have hold:∀b o,h b=some o→b<w.heap.size:=fun b o hb=>(Array.getElem?_eq_some_iff.1 (hw b o hb)).1
 refine⟨v,h,rfl,⟨rfl,rfl⟩,fun b o hb=>?_,hB.tape,hB.os,hB.output,hB.size,fun b hb _=>hB.block b hb,fun b _ hn=>hn⟩
 rw[hB.block b (hold b o hb)]
 exact hw b o hb
theorem cells_texts {h:Heap}{v:Value}{xs:List ByteArray}(R:Rep h v xs) (hx:xs≠[]):∃b o c,v=.slice (some ⟨b,o,none⟩) xs.length c∧xs.length≤c∧∀w,h.sub w→b<w.heap.size∧∀(j:Nat) x,xs[j]? = some x→w.cell? ⟨b,o+j,none⟩=some (.string x):=by
 have hpos:0<xs.length:=List.length_pos_iff.2 hx
 obtain⟨p,cap,rfl,h1,_,h3⟩:=Rep_list.1 R
 obtain⟨b,off,vs,rfl,_,_⟩:=h3 0 hpos
 have key:∀(j:Nat) x,xs[j]? = some x→hcell h b (off+j)=some (.string x):=by
  intro j x hj
  obtain⟨hj1,hj2⟩:=List.getElem?_eq_some_iff.1 hj
  obtain⟨b',off',vs,hp,hc,hv⟩:=h3 j hj1
  simp only[Option.some.injEq,Addr.mk.injEq,and_true] at hp
  obtain⟨rfl,rfl⟩:=hp
  have hv:vs=[.string xs[j]]:=hv
  rw[hj2] at hv
  subst hv
  simp only[show Ty.sz ByteArray=1 from rfl,Nat.mul_one,hcells] at hc
  split at hc
  ·rename_i v r hv hr
   simp only[Option.some.injEq,List.cons.injEq] at hc
   rw[hv,hc.1]
  ·simp at hc
 refine⟨b,off,cap,rfl,h1.1,fun w hw=>⟨?_,fun j x hj=>hcell_sub hw (key j x hj)⟩⟩
 have e1:=key 0 xs[0] (List.getElem?_eq_getElem hpos)
 have e3:∃o,h b=some o:=by
  unfold hcell at e1
  split at e1
  ·rename_i c el fr hb;exact⟨_,hb⟩
  ·simp at e1
 obtain⟨o,ho⟩:=e3
 exact (Array.getElem?_eq_some_iff.1 (hw b o ho)).1
structure Sta.Ok (s:Sy) (st:Sta):Prop where
 len:st.locs.length=s.procs.length
 vs:VOk st.vals
 lc:∀(i:Nat) (h1:i<st.locs.length) (h2:i<s.procs.length),0≤st.locs[i]∧st.locs[i]<s.procs[i].locs
noncomputable instance instDecStaOk {s:Sy}{st:Sta}:Decidable (st.Ok s):=Classical.propDecidable _
theorem Sta.Ok.d {s:Sy}{st:Sta}(hs:s.Ok) (h:st.Ok s):st.dOk:=by
 refine⟨fun n hn=>?_,fun n hn=>?_⟩
 ·obtain⟨i,hi,rfl⟩:=List.mem_iff_getElem.1 hn
  have hl:=h.len
  have h1:=h.lc i hi (by omega)
  have h2:=(hs.at (i:=i) (by omega)).n4
  omega
 ·have:=h.vs.2 n hn
  omega
theorem lenTx {l:List UInt8}:lenSV (.string (Tx l))=some (.int .i64 l.length):=rfl
theorem idxTx {l:List UInt8}{kd:IntKind}{i:Nat}(h:i<l.length):idxSV (.string (Tx l)) (.int kd (i:Int))=some (.int .u8 ((l[i].toNat:Nat):Int)):=by
 unfold idxSV
 simp only
 rw[if_pos (by omega),Int.toNat_natCast]
 show (l.toArray[i]?).map _=_
 rw[List.getElem?_toArray,List.getElem?_eq_getElem h]
 rfl
theorem idxTx0 {l:List UInt8}{kd:IntKind}(h:0<l.length):idxSV (.string (Tx l)) (.int kd 0)=some (.int .u8 ((l[0].toNat:Nat):Int)):=idxTx (i:=0) h
theorem Tx_data {l:List UInt8}:(Tx l).data.toList=l:=rfl
attribute [simp] lenTx idxTx idxTx0 Tx_data
@[simp] theorem mxZ {e:Int}(h:e<4611686018427387904):(9223372036854775807<e)=False:=by
 simp only[eq_iff_iff,iff_false];omega
theorem slcV {n:Int}(h0:0≤n) (h2:n≤2):sliceSV (.string (Tx [120,121,122])) (some (some (.int .i64 n))) (some (some (.int .i64 (n+1))))=some (.string (Tx [UInt8.ofNat (120+n.toNat)])):=by
 obtain rfl | rfl | rfl:n=0∨n=1∨n=2:=by omega
 all_goals rfl
theorem slcG {n:Int}(h4:4≤n) (h9:n≤9):sliceSV (.string (Tx [32,32,32,32,38,124,61,60,43,45])) (some (some (.int .i64 n))) (some (some (.int .i64 (n+1))))=some (.string (Tx [Exq.sg n])):=by
 obtain rfl | rfl | rfl | rfl | rfl | rfl:n=4∨n=5∨n=6∨n=7∨n=8∨n=9:=by omega
 all_goals rfl
theorem c_l1Sign {h:Heap}{n:Int}(h4:4≤n) (h9:n≤9):CallE Tryd.prog fn_spec_l1Sign [.int .i64 n] h (fun u h'=>h'=h∧u=.string (Tx [Exq.sg n])):=by
 refine CallE.gen fun k hk=>EN_spec_l1Sign rfl ?_
 have e:=slcG h4 h9
 simp -implicitDefEqProofs (disch:=first|omega|(simp only[LnZ];omega))[wrap64,e]
 exact RetK.keep (hk _ _ ⟨rfl,rfl⟩)
theorem c_l1Format:∀(n:Nat) {x:Exq}{h:Heap}{v:Value},x.Shp n→x.nod≤15→Rep h v x→CallE Tryd.prog fn_spec_l1Format [v] h (fun u h'=>h.le h'∧u=.string (Tx x.fmt)):=by
 intro n
 induction n with
 | zero=>intro x h v hs;exact hs.elim
 | succ n ih=>
 intro x h v hs hn R
 obtain⟨wk,rfl,k1,k2,R1⟩:=Rep_Exq.1 R
 have hL:=R1.lt
 have hlo:=hs.1.lo
 refine CallE.gen fun k hk=>EN_spec_l1Format rfl ?_
 rcases hs.nd.cases with c | c | c | c
 ·have h3:=hs.nd.hi1 c
  simp -implicitDefEqProofs (disch:=first|omega|(simp only[LnZ];omega))[wrap64,c]
  refine (c_l16Dec hlo (by omega)).go ?_
  rintro _ h1 ⟨l1,rfl⟩
  simp -implicitDefEqProofs (disch:=omega)[wrap64]
  exact RetK.keep (hk _ _ ⟨l1,by rw[Exq.fmt1 c]⟩)
 ·have h2:=hs.nd.hi2 c
  have e:=slcV hlo h2
  simp -implicitDefEqProofs (disch:=first|omega|(simp only[LnZ];omega))[wrap64,c,e]
  exact RetK.keep (hk _ _ ⟨Heap.le.refl _,by rw[Exq.fmt2 c];simp⟩)
 ·have hl:=hs.nd.k3 c
  have hnn:=Exq.nod_kids1 hl
  obtain⟨u0,hu0,Ru0⟩:=R1.ld (i:=0) (by omega)
  change hload _ (some (elp 3 wk 0)) (some 3)=some u0 at hu0
  have hf:=Exq.fmt_len (hs.kid (i:=0) (by omega))
  have c1:¬x.kind=1:=by omega
  have c2:¬x.kind=2:=by omega
  have e3:=Exq.fmt3 c (by omega)
  simp -implicitDefEqProofs (disch:=first|omega|(simp only[LnZ];omega))[wrap64,c,c1,c2,R1.X (n:=3) rfl,hu0]
  refine (ih (hs.kid (i:=0) (by omega)) (by omega) Ru0).go ?_
  rintro _ h1 ⟨l1,rfl⟩
  generalize x.kids[0].fmt=t at *
  simp -implicitDefEqProofs (disch:=omega)[wrap64]
  exact RetK.keep (hk _ _ ⟨l1,by rw[e3]⟩)
 ·have hl:=hs.nd.k4 c.1
  have hnn:=Exq.nod_kids2 hl
  obtain⟨u0,hu0,Ru0⟩:=R1.ld (i:=0) (by omega)
  change hload _ (some (elp 3 wk 0)) (some 3)=some u0 at hu0
  obtain⟨u1,hu1,Ru1⟩:=R1.ld (i:=1) (by omega)
  change hload _ (some (elp 3 wk 1)) (some 3)=some u1 at hu1
  have hf:=Exq.fmt_len (hs.kid (i:=0) (by omega))
  have hg:=Exq.fmt_len (hs.kid (i:=1) (by omega))
  have c1:¬x.kind=1:=by omega
  have c2:¬x.kind=2:=by omega
  have c3:¬x.kind=3:=by omega
  have e4:=Exq.fmt4 c.1 (by omega)
  simp -implicitDefEqProofs (disch:=first|omega|(simp only[LnZ];omega))[wrap64,c1,c2,c3,R1.X (n:=3) rfl,hu0,hu1]
  refine (ih (hs.kid (i:=0) (by omega)) (by omega) Ru0).go ?_
  rintro _ h1 ⟨l1,rfl⟩
  have hu1:=hload_le l1 hu1
  simp -implicitDefEqProofs (disch:=first|omega|(simp only[LnZ];omega))[wrap64,c1,c2,c3,R1.X (n:=3) rfl,hu1]
  refine (c_l1Sign c.1 c.2).go ?_
  rintro _ _ ⟨rfl,rfl⟩
  simp -implicitDefEqProofs (disch:=first|omega|(simp only[LnZ];omega))[wrap64,c1,c2,c3,R1.X (n:=3) rfl,hu1]
  refine (ih (hs.kid (i:=1) (by omega)) (by omega) (Ru1.le l1)).go ?_
  rintro _ h2 ⟨l2,rfl⟩
  generalize x.kids[0].fmt=t at *
  generalize x.kids[1].fmt=t2 at *
  simp -implicitDefEqProofs (disch:=omega)[wrap64]
  exact RetK.keep (hk _ _ ⟨l1.trans l2,by rw[e4]⟩)
theorem c_l2Line {h:Heap}{v:Value}{e:Ed}{n:Int}(R:Rep h v e) (he:e.Ok n):CallE Tryd.prog fn_spec_l2Line [v] h (fun u h'=>h.le h'∧u=.string (Tx ((Ln.edg e).row++[10]))):=by
 obtain⟨w1,w2,rfl,ok,R1,R2⟩:=Rep_Ed.1 R
 have G1:Rep h (.agg #[.int .i64 e.guard.kind,.int .i64 e.guard.val,w1]) e.guard:=Rep_Exq.2 ⟨w1,rfl,ok.gk,ok.gv,R1⟩
 have G2:Rep h (.agg #[.int .i64 e.value.kind,.int .i64 e.value.val,w2]) e.value:=Rep_Exq.2 ⟨w2,rfl,ok.vk,ok.vv,R2⟩
 have hf0:=he.f0
 have hf1:=he.f1
 have ht0:=he.t0
 have ht1:=he.t1
 have hn4:=he.n4
 have hs0:=he.s0
 have hs1:=he.s1
 have hv1:=he.v1
 have hgl:=he.gd.fmt_len
 refine CallE.gen fun k hk=>EN_spec_l2Line rfl ?_
 simp -implicitDefEqProofs (disch:=first|omega|(simp only[LnZ];omega))[wrap64,Ed.cs]
 refine (c_l16Dec hf0 (by omega)).go ?_
 rintro _ h1 ⟨l1,rfl⟩
 simp -implicitDefEqProofs (disch:=first|omega|(simp only[LnZ];omega))[wrap64,Ed.cs]
 refine (c_l16Dec ht0 (by omega)).go ?_
 rintro _ h2 ⟨l2,rfl⟩
 simp -implicitDefEqProofs (disch:=first|omega|(simp only[LnZ];omega))[wrap64,Ed.cs]
 refine (c_l1Format _ he.gd.1 he.gd.2 (G1.le (l1.trans l2))).go ?_
 rintro _ h3 ⟨l3,rfl⟩
 have l3:=(l1.trans l2).trans l3
 have hrow:(Ln.edg e).row++[10]=[101,100,103,101,32]++(dg e.frm::32::dg e.to::32::(e.guard.fmt++32::(e.asg++32::(syn e.sync++[10])))):=by
  simp[Ln.row,Ln.ws,jn,wEdg]
 rw[hrow] at hk
 generalize e.guard.fmt=t at *
 by_cases q1:e.var<0
 ·have ya:e.asg=[45]:=by rw[Ed.asg,if_pos q1]
  by_cases s1:e.sync<0
  ·have y1:syn e.sync=[63,dg (-e.sync)]:=by rw[syn,if_neg (by omega),if_pos s1]
   have s2:¬0<e.sync:=by omega
   simp -implicitDefEqProofs (disch:=first|omega|(simp only[LnZ];omega))[wrap64,Ed.cs,q1,s1,s2]
   refine (c_l16Dec (n:=-e.sync) (by omega) (by omega)).go ?_
   rintro _ h4 ⟨l4,rfl⟩
   simp -implicitDefEqProofs (disch:=first|omega|(simp only[LnZ];omega))[wrap64,Ed.cs]
   exact RetK.keep (hk _ _ ⟨l3.trans l4,by simp[ya,y1]⟩)
  by_cases s2:0<e.sync
  ·have y1:syn e.sync=[33,dg e.sync]:=by rw[syn,if_pos s2]
   simp -implicitDefEqProofs (disch:=first|omega|(simp only[LnZ];omega))[wrap64,Ed.cs,q1,s1,s2]
   refine (c_l16Dec (n:=e.sync) (by omega) (by omega)).go ?_
   rintro _ h4 ⟨l4,rfl⟩
   simp -implicitDefEqProofs (disch:=first|omega|(simp only[LnZ];omega))[wrap64,Ed.cs]
   exact RetK.keep (hk _ _ ⟨l3.trans l4,by simp[ya,y1]⟩)
  ·have y1:syn e.sync=[45]:=by rw[syn,if_neg s2,if_neg s1]
   simp -implicitDefEqProofs (disch:=first|omega|(simp only[LnZ];omega))[wrap64,Ed.cs,q1,s1,s2]
   exact RetK.keep (hk _ _ ⟨l3,by simp[ya,y1]⟩)
 ·have ya:e.asg=UInt8.ofNat (120+e.var.toNat)::58::61::e.value.fmt:=by rw[Ed.asg,if_neg q1]
  have hvo:e.value.Ok:=by
   rcases he.vl with ⟨_,h⟩ | ⟨h,_⟩
   ·exact h
   ·exact absurd h q1
  have hvl:=hvo.fmt_len
  have ex:=slcV (n:=e.var) (by omega) hv1
  simp -implicitDefEqProofs (disch:=first|omega|(simp only[LnZ];omega))[wrap64,Ed.cs,q1,ex]
  refine (c_l1Format _ hvo.1 hvo.2 (G2.le l3)).go ?_
  rintro _ h3 ⟨l3',rfl⟩
  have l3:=l3.trans l3'
  generalize e.value.fmt=t2 at *
  by_cases s1:e.sync<0
  ·have y1:syn e.sync=[63,dg (-e.sync)]:=by rw[syn,if_neg (by omega),if_pos s1]
   have s2:¬0<e.sync:=by omega
   simp -implicitDefEqProofs (disch:=first|omega|(simp only[LnZ];omega))[wrap64,Ed.cs,q1,s1,s2]
   refine (c_l16Dec (n:=-e.sync) (by omega) (by omega)).go ?_
   rintro _ h4 ⟨l4,rfl⟩
   simp -implicitDefEqProofs (disch:=first|omega|(simp only[LnZ];omega))[wrap64,Ed.cs]
   exact RetK.keep (hk _ _ ⟨l3.trans l4,by simp[ya,y1]⟩)
  by_cases s2:0<e.sync
  ·have y1:syn e.sync=[33,dg e.sync]:=by rw[syn,if_pos s2]
   simp -implicitDefEqProofs (disch:=first|omega|(simp only[LnZ];omega))[wrap64,Ed.cs,q1,s1,s2]
   refine (c_l16Dec (n:=e.sync) (by omega) (by omega)).go ?_
   rintro _ h4 ⟨l4,rfl⟩
   simp -implicitDefEqProofs (disch:=first|omega|(simp only[LnZ];omega))[wrap64,Ed.cs]
   exact RetK.keep (hk _ _ ⟨l3.trans l4,by simp[ya,y1]⟩)
  ·have y1:syn e.sync=[45]:=by rw[syn,if_neg s2,if_neg s1]
   simp -implicitDefEqProofs (disch:=first|omega|(simp only[LnZ];omega))[wrap64,Ed.cs,q1,s1,s2]
   exact RetK.keep (hk _ _ ⟨l3,by simp[ya,y1]⟩)
theorem jn_flat {c:UInt8}:∀{w:List UInt8}{ws:List (List UInt8)},jn c (w::ws)=w++(ws.map fun x=>c::x).flatten
 | w,[]=>by simp[jn]
 | w,x::r=>by rw[jn_cons (by simp),jn_flat];simp
theorem row_sys {l:List Int}:(Ln.sys l).row++[10]=wSys++((l.map fun n=>[32,dg n]).flatten++[10]):=by
 rw[Ln.row,Ln.ws,jn_flat,List.map_map,List.append_assoc]
 rfl
theorem rows_one {x:Ln}:rows [x]=x.row++[10]:=by simp[rows]
theorem rows_snoc {l:List Ln}{x:Ln}:rows (l++[x])=rows l++(x.row++[10]):=by rw[rows_app,rows_one]
theorem take_flat {α β:Type}{f:α→List β}{l:List α}{i:Nat}(h:i<l.length):(l.take (i+1)).flatMap f=(l.take i).flatMap f++f l[i]:=by
 rw[List.take_add_one,List.getElem?_eq_getElem h,List.flatMap_append];simp only[Option.toList_some,List.flatMap_cons,List.flatMap_nil,List.append_nil]
theorem take_map1 {α β:Type}{f:α→β}{l:List α}{i:Nat}(h:i<l.length):(l.take (i+1)).map f=(l.take i).map f++[f l[i]]:=by
 rw[List.take_add_one,List.getElem?_eq_getElem h,List.map_append];rfl
theorem c_spec_FormatSystem {h:Heap}{v:Value}{s:Sy}(R:Rep h v s):CallE Tryd.prog fn_spec_FormatSystem [v] h (fun u h'=>h.le h'∧u=.string (Tx (if s.Ok then s.fmt else []))):=by
 have FS:=R.aSy
 have R0:=R
 obtain⟨v1,v2,rfl,R1,R2'⟩:=Rep_Sy.1 R
 refine CallE.gen fun k hk=>EN_spec_FormatSystem rfl ?_
 simp -implicitDefEqProofs (disch:=first|omega|(simp only[LnZ];omega))[wrap64,FS]
 refine (c_spec_SystemValid R0).go ?_
 rintro _ h ⟨rfl,rfl⟩
 by_cases hs:s.Ok
 case neg=>
  simp -implicitDefEqProofs (disch:=first|omega|(simp only[LnZ];omega))[wrap64,hs]
  exact RetK.keep (hk _ _ ⟨Heap.le.refl _,by rw[if_neg hs]⟩)
 rw[if_pos hs] at hk
 have hil:=hs.vs.len
 have hp3:=hs.p3
 simp -implicitDefEqProofs (disch:=first|omega|(simp only[LnZ];omega))[wrap64,hs]
 refine wp_count s.init.length (fun i e h'=>∃o:List UInt8,e=[none,some (.agg #[v1,v2]),none,some (.string (Tx o)),some (.int .i64 i),none,none]∧h.le h'∧o=wSys++((s.init.take i).map fun n=>[32,dg n]).flatten∧o.length=6+2*i) ⟨wSys,by simp[wSys],Heap.le.refl _,by simp,rfl⟩ ?_
 rintro J i _ h1 hJ hi ⟨o,rfl,l1,ho,hol⟩
 have R1':=R1.le l1
 simp -implicitDefEqProofs (disch:=first|omega|(simp only[LnZ];omega))[wrap64,R1'.len]
 refine IteW.mk (fun hlt=>?_) (fun hge=>?_)
 ·have hix:i<s.init.length:=by omega
  have hv:=hs.vs.at hix
  simp -implicitDefEqProofs (disch:=first|omega|(simp only[LnZ];omega))[wrap64,R1'.I]
  refine (c_l16Dec hv.1 (by omega)).go ?_
  rintro _ h2 ⟨l2,rfl⟩
  simp -implicitDefEqProofs (disch:=omega)[wrap64]
  refine hJ _ _ hix ⟨o++[32,dg s.init[i]],by simp,l1.trans l2,?_,by simp;omega⟩
  rw[take_map1 hix,List.flatten_append,ho];simp
 obtain rfl:i=s.init.length:=by omega
 rw[List.take_length] at ho
 have ho1:o++[10]=rows [.sys s.init]:=by rw[rows_one,row_sys,ho,List.append_assoc]
 simp -implicitDefEqProofs (disch:=omega)[wrap64]
 refine wp_count s.procs.length (fun i e h'=>∃o:List UInt8,e=[none,some (.agg #[v1,v2]),none,some (.string (Tx o)),none,some (.int .i64 i),none]∧h.le h'∧o=rows (.sys s.init::(s.procs.take i).flatMap Pr.lns)∧o.length≤1000*(i+1)) ⟨o++[10],by simp,l1,by simpa using ho1,by simp;omega⟩ ?_
 clear hJ
 rintro J i _ h1 hJ hi ⟨o,rfl,l1,ho,hol⟩
 have R2:=R2'.le l1
 simp -implicitDefEqProofs (disch:=first|omega|(simp only[LnZ];omega))[wrap64,R2.len]
 refine IteW.mk (fun hlt=>?_) (fun hge=>?_)
 ·have hix:i<s.procs.length:=by omega
  have hP:=hs.at hix
  obtain⟨u,hu,Ru⟩:=R2.ld hix
  change hload _ (some (elp 2 v2 i)) (some 2)=some u at hu
  obtain⟨we,rfl,kl,R3⟩:=Rep_Pr.1 Ru
  have hH:=hld_parts (cs:=[.int .i64 s.procs[i].locs,we]) hu
  have hn1:=hP.n1
  have hn4:=hP.n4
  have hel:=hP.el
  simp -implicitDefEqProofs (disch:=first|omega|(simp only[LnZ];omega))[wrap64,R2.X (n:=2) rfl,hH.1,hH.2.2.1]
  refine (c_l16Dec (n:=s.procs[i].locs) (by omega) (by omega)).go ?_
  rintro _ h2 ⟨l2,rfl⟩
  simp -implicitDefEqProofs (disch:=omega)[wrap64]
  refine wp_count s.procs[i].edges.length (fun k e h'=>∃o':List UInt8,e=[none,some (.agg #[v1,v2]),none,some (.string (Tx o')),none,some (.int .i64 i),some (.int .i64 k)]∧h1.le h'∧o'=rows (.sys s.init::(s.procs.take i).flatMap Pr.lns++.prc s.procs[i].locs::(s.procs[i].edges.take k).map .edg)∧o'.length≤1000*(i+1)+121*(k+1)) ⟨_,rfl,l2,?_,by simp;omega⟩ ?_
  ·rw[List.take_zero,List.map_nil,rows_snoc,← ho]
   simp[Ln.row,Ln.ws,jn,wPrc]
  rintro I k _ h3 hI hk2 ⟨o',rfl,l3,ho',hol'⟩
  have hu3:=hload_le l3 hu
  have hH:=hld_parts (cs:=[.int .i64 s.procs[i].locs,we]) hu3
  have R4:=R3.le l3
  have R2:=R2.le l3
  simp -implicitDefEqProofs (disch:=first|omega|(simp only[LnZ];omega))[wrap64,R2.X (n:=2) rfl,hH.1,hH.2.2.1,R4.len]
  refine IteW.mk (fun hlt=>?_) (fun hge=>?_)
  ·have hkx:k<s.procs[i].edges.length:=by omega
   have hE:=hP.at hkx
   obtain⟨u2,hu2,Ru2⟩:=R4.ld hkx
   change hload _ (some (elp 10 we k)) (some 10)=some u2 at hu2
   simp -implicitDefEqProofs (disch:=first|omega|(simp only[LnZ];omega))[wrap64,R2.X (n:=2) rfl,hH.1,hH.2.2.1,R4.X (n:=10) rfl,hu2]
   refine (c_l2Line Ru2 hE).go ?_
   rintro _ h4 ⟨l4,rfl⟩
   have hrl:=Ln.row_len (x:=.edg s.procs[i].edges[k]) ⟨_,hE⟩
   generalize hrw:(Ln.edg s.procs[i].edges[k]).row=r at *
   simp -implicitDefEqProofs (disch:=omega)[wrap64]
   refine hI _ _ hkx ⟨o'++(r++[10]),by simp,l3.trans l4,?_,by simp;omega⟩
   have e:(Ln.sys s.init::(s.procs.take i).flatMap Pr.lns++.prc s.procs[i].locs::(s.procs[i].edges.take (k+1)).map .edg)=(Ln.sys s.init::(s.procs.take i).flatMap Pr.lns++.prc s.procs[i].locs::(s.procs[i].edges.take k).map .edg)++[.edg s.procs[i].edges[k]]:=by rw[take_map1 hkx];simp only[List.cons_append,List.append_assoc]
   rw[e,rows_snoc,← ho',hrw]
  ·obtain rfl:k=s.procs[i].edges.length:=by omega
   rw[List.take_length] at ho'
   simp -implicitDefEqProofs (disch:=omega)[wrap64]
   refine hJ _ _ hix ⟨o',by simp,l1.trans l3,?_,by omega⟩
   rw[take_flat hix,ho']
   rfl
 ·obtain rfl:i=s.procs.length:=by omega
  rw[List.take_length] at ho
  simp -implicitDefEqProofs (disch:=omega)[wrap64]
  exact RetK.keep (hk _ _ ⟨l1,by rw[ho];rfl⟩)
end Go.Proofs.YtjbjnicobdpdhaaDoor

namespace Go.Proofs.YtjbjnicobdpdhaaDoor
open Go Go.Shelf
def sh_lays156_ren:Ren:=⟨fun | 156=>33 | 165=>45 | 166=>46 | 169=>47 | 240=>57 | 241=>58 | 276=>69 | 277=>70 | n=>n,fun | 31=>66 | 9=>9 | 3=>3 | 4=>4 | 0=>0 | 20=>20 | 72=>78 | 76=>82 | 70=>76 | 37=>59 | 75=>81 | 127=>96 | 164=>110 | 5=>5 | 80=>50 | n=>n,fun | n=>n⟩
theorem sh_lays156:Go.Proofs.Lays.n156 Tryd.prog sh_lays156_ren:={
 mixed:=by kernel_rfl
 f156:=Tryd.func33.trans (congrArg some (by kernel_rfl))
 f165:=Tryd.func45.trans (congrArg some (by kernel_rfl))
 f166:=Tryd.func46.trans (congrArg some (by kernel_rfl))
 f169:=Tryd.func47.trans (congrArg some (by kernel_rfl))
 f240:=Tryd.func57.trans (congrArg some (by kernel_rfl))
 f241:=Tryd.func58.trans (congrArg some (by kernel_rfl))
 f276:=Tryd.func69.trans (congrArg some (by kernel_rfl))
 f277:=Tryd.func70.trans (congrArg some (by kernel_rfl))
 t0:=Tryd.underlying0
 a0:=Tryd.isAgg0
 z0:=Tryd.sizeOf0
 v0:=Tryd.zeroValue0
 t3:=Tryd.underlying3
 a3:=Tryd.isAgg3
 z3:=Tryd.sizeOf3
 v3:=Tryd.zeroValue3
 t4:=Tryd.underlying4
 a4:=Tryd.isAgg4
 z4:=Tryd.sizeOf4
 v4:=Tryd.zeroValue4
 t9:=Tryd.underlying9
 a9:=Tryd.isAgg9
 z9:=Tryd.sizeOf9
 v9:=Tryd.zeroValue9
 t20:=Tryd.underlying20
 a20:=Tryd.isAgg20
 z20:=Tryd.sizeOf20
 v20:=Tryd.zeroValue20
 t31:=Tryd.underlying66
 a31:=Tryd.isAgg66
 z31:=Tryd.sizeOf66
 v31:=Tryd.zeroValue66
 t37:=Tryd.underlying59
 a37:=Tryd.isAgg59
 z37:=Tryd.sizeOf59
 v37:=Tryd.zeroValue59
 t70:=Tryd.underlying76
 a70:=Tryd.isAgg76
 z70:=Tryd.sizeOf76
 v70:=Tryd.zeroValue76
 t72:=Tryd.underlying78
 a72:=Tryd.isAgg78
 z72:=Tryd.sizeOf78
 v72:=Tryd.zeroValue78
 t75:=Tryd.underlying81
 a75:=Tryd.isAgg81
 z75:=Tryd.sizeOf81
 v75:=Tryd.zeroValue81
 t76:=Tryd.underlying82
 a76:=Tryd.isAgg82
 z76:=Tryd.sizeOf82
 v76:=Tryd.zeroValue82
 t127:=Tryd.underlying96
 a127:=Tryd.isAgg96
 z127:=Tryd.sizeOf96
 v127:=Tryd.zeroValue96
 t164:=Tryd.underlying110
 a164:=Tryd.isAgg110
 z164:=Tryd.sizeOf110
 v164:=Tryd.zeroValue110 }
theorem sh_Builder_Extra_156:Builder.Extra Tryd.prog sh_lays156_ren:={
 sizeBuilder:=by kernel_rfl
 liesBuilder:=by kernel_rfl
 t5:=Tryd.underlying5
 a5:=Tryd.isAgg5
 z5:=Tryd.sizeOf5
 v5:=Tryd.zeroValue5
 infoByte:=by kernel_rfl
 cellsByte:=by kernel_rfl
 sizeByte:=by kernel_rfl
 neB5:=by decide }
open Go.RowKit in
theorem sh_strings_Join (bk o c:Nat) (xs:List ByteArray) (sep:ByteArray) (w:World) (hcells:∀(j:Nat) x,xs[j]? = some x→w.cell? ⟨bk,o+j,none⟩=some (.string x)) (hbk:bk<w.heap.size) (hN:xs.length≤140737488355328) (hcap:xs.length≤c) (hlen:(Lib.join (xs.map (·.data.toList)) sep.data.toList).length≤140737488355328) :
  Calls Tryd.prog 33 #[.slice (some ⟨bk,o,none⟩) xs.length c,.string sep] w fun e w'=>e=.returned (.string ⟨(Lib.join (xs.map (·.data.toList)) sep.data.toList).toArray⟩)∧Below w.heap.size w w':=Any.strings_Join sh_lays156 sh_Builder_Extra_156 bk o c xs sep w hcells hbk hN hcap hlen
theorem slcD {n:Int}(h0:0≤n) (h9:n≤9):sliceSV (.string (Tx [48,49,50,51,52,53,54,55,56,57,97,98,99,100,101,102,103,104,105,106,107,108,109,110,111,112,113,114,115,116,117,118,119,120,121,122])) (some (some (.int .i64 n))) (some (some (.int .i64 (n+1))))=some (.string (Tx [dg n])):=by
 obtain rfl | rfl | rfl | rfl | rfl | rfl | rfl | rfl | rfl | rfl:n=0∨n=1∨n=2∨n=3∨n=4∨n=5∨n=6∨n=7∨n=8∨n=9:=by omega
 all_goals rfl
theorem c_strconv_small {h:Heap}{n:Int}(h0:0≤n) (h9:n≤9):CallE Tryd.prog fn_internal_strconv_small [.int .i64 n] h (fun u h'=>h'=h∧u=.string (Tx [dg n])):=by
 refine CallE.gen fun k hk=>EN_internal_strconv_small rfl ?_
 have e:=slcD h0 h9
 have h1:n<10:=by omega
 simp -implicitDefEqProofs (disch:=first|omega|(simp only[LnZ];omega))[wrap64,h1,e]
 exact RetK.keep (hk _ _ ⟨rfl,rfl⟩)
theorem c_FormatInt {h:Heap}{n:Int}(h0:0≤n) (h9:n≤9):CallE Tryd.prog fn_internal_strconv_FormatInt [.int .i64 n,.int .i64 10] h (fun u h'=>h'=h∧u=.string (Tx [dg n])):=by
 refine CallE.gen fun k hk=>EN_internal_strconv_FormatInt rfl ?_
 have h1:n<100:=by omega
 simp -implicitDefEqProofs (disch:=first|omega|(simp only[LnZ];omega))[wrap64,h0,h1]
 refine (c_strconv_small h0 h9).go ?_
 rintro _ _ ⟨rfl,rfl⟩
 simp -implicitDefEqProofs (disch:=omega)[wrap64]
 exact RetK.keep (hk _ _ ⟨rfl,rfl⟩)
theorem c_Itoa {h:Heap}{n:Int}(h0:0≤n) (h9:n≤9):CallE Tryd.prog fn_strconv_Itoa [.int .i64 n] h (fun u h'=>h'=h∧u=.string (Tx [dg n])):=by
 have e:CallE Tryd.prog fn_internal_strconv_Itoa [.int .i64 n] h (fun u h'=>h'=h∧u=.string (Tx [dg n])):=by
  refine CallE.gen fun k hk=>EN_internal_strconv_Itoa rfl ?_
  simp -implicitDefEqProofs (disch:=omega)[wrap64]
  refine (c_FormatInt h0 h9).go ?_
  rintro _ _ ⟨rfl,rfl⟩
  simp -implicitDefEqProofs (disch:=omega)[wrap64]
  exact RetK.keep (hk _ _ ⟨rfl,rfl⟩)
 refine CallE.gen fun k hk=>EN_strconv_Itoa rfl ?_
 simp -implicitDefEqProofs (disch:=omega)[wrap64]
 refine e.go ?_
 rintro _ _ ⟨rfl,rfl⟩
 simp -implicitDefEqProofs (disch:=omega)[wrap64]
 exact RetK.keep (hk _ _ ⟨rfl,rfl⟩)
def sgL:List ByteArray:=[Tx [],Tx [],Tx [],Tx [],Tx [38],Tx [124],Tx [61],Tx [60],Tx [43],Tx [45]]
theorem sgL_at {k:Int}(h4:4≤k) (h9:k≤9) (hi:k.toNat<sgL.length):sgL[k.toNat]=Tx [Exq.sg k]:=by
 obtain rfl | rfl | rfl | rfl | rfl | rfl:k=4∨k=5∨k=6∨k=7∨k=8∨k=9:=by omega
 all_goals rfl
def Gl (h:Heap):Prop:=∃w,hload h (some (.pointer (some ⟨0,0,none⟩))) none=some w∧Rep h w sgL
theorem Gl.le {h h':Heap}(H:Gl h) (hl:h.le h'):Gl h':=by
 obtain⟨w,h1,h2⟩:=H
 exact⟨w,hload_le hl h1,h2.le hl⟩
theorem c_text:∀(n:Nat) {x:Exq}{h:Heap}{v:Value},x.Shp n→x.nod≤15→Rep h v x→Gl h→CallE Tryd.prog fn_impl_Expr_text [v] h (fun u h'=>h'=h∧u=.string (Tx x.fmt)):=by
 intro n
 induction n with
 | zero=>intro x h v hs;exact hs.elim
 | succ n ih=>
 intro x h v hs hn R G
 obtain⟨wk,rfl,k1,k2,R1⟩:=Rep_Exq.1 R
 have hL:=R1.lt
 have hlo:=hs.1.lo
 refine CallE.gen fun k hk=>EN_impl_Expr_text rfl ?_
 rcases hs.nd.cases with c | c | c | c
 ·have h3:=hs.nd.hi1 c
  simp -implicitDefEqProofs (disch:=first|omega|(simp only[LnZ];omega))[wrap64,c]
  refine (c_Itoa hlo (by omega)).go ?_
  rintro _ _ ⟨rfl,rfl⟩
  simp -implicitDefEqProofs (disch:=omega)[wrap64]
  exact RetK.keep (hk _ _ ⟨rfl,by rw[Exq.fmt1 c]⟩)
 ·have h2:=hs.nd.hi2 c
  have e:=slcV hlo h2
  simp -implicitDefEqProofs (disch:=first|omega|(simp only[LnZ];omega))[wrap64,c,e]
  exact RetK.keep (hk _ _ ⟨rfl,by rw[Exq.fmt2 c];simp⟩)
 ·have hl:=hs.nd.k3 c
  have hnn:=Exq.nod_kids1 hl
  obtain⟨u0,hu0,Ru0⟩:=R1.ld (i:=0) (by omega)
  change hload _ (some (elp 3 wk 0)) (some 3)=some u0 at hu0
  have hf:=Exq.fmt_len (hs.kid (i:=0) (by omega))
  have c1:¬x.kind=1:=by omega
  have c2:¬x.kind=2:=by omega
  have e3:=Exq.fmt3 c (by omega)
  simp -implicitDefEqProofs (disch:=first|omega|(simp only[LnZ];omega))[wrap64,c,c1,c2,R1.X (n:=3) rfl,hu0]
  refine (ih (hs.kid (i:=0) (by omega)) (by omega) Ru0 G).go ?_
  rintro _ _ ⟨rfl,rfl⟩
  generalize x.kids[0].fmt=t at *
  simp -implicitDefEqProofs (disch:=omega)[wrap64]
  exact RetK.keep (hk _ _ ⟨rfl,by rw[e3]⟩)
 ·have hl:=hs.nd.k4 c.1
  have hnn:=Exq.nod_kids2 hl
  obtain⟨u0,hu0,Ru0⟩:=R1.ld (i:=0) (by omega)
  change hload _ (some (elp 3 wk 0)) (some 3)=some u0 at hu0
  obtain⟨u1,hu1,Ru1⟩:=R1.ld (i:=1) (by omega)
  change hload _ (some (elp 3 wk 1)) (some 3)=some u1 at hu1
  have hf:=Exq.fmt_len (hs.kid (i:=0) (by omega))
  have hg:=Exq.fmt_len (hs.kid (i:=1) (by omega))
  have c1:¬x.kind=1:=by omega
  have c2:¬x.kind=2:=by omega
  have c3:¬x.kind=3:=by omega
  have e4:=Exq.fmt4 c.1 (by omega)
  have G0:=G
  obtain⟨wg,g1,Rg⟩:=G
  have hkl:k1=k1:=rfl
  have hki:x.kind.toNat<sgL.length:=by show x.kind.toNat<10;omega
  have gi:=(Rg.X (n:=1) rfl).2.1 .i64 x.kind (by omega) (by show x.kind<(10:Nat);omega)
  have gl:=Rg.ldS hki
  rw[sgL_at c.1 c.2] at gl
  simp -implicitDefEqProofs (disch:=first|omega|(simp only[LnZ];omega))[wrap64,c1,c2,c3,R1.X (n:=3) rfl,hu0,hu1,g1,gi,gl]
  refine (ih (hs.kid (i:=0) (by omega)) (by omega) Ru0 G0).go ?_
  rintro _ _ ⟨rfl,rfl⟩
  simp -implicitDefEqProofs (disch:=first|omega|(simp only[LnZ];omega))[wrap64,c1,c2,c3,R1.X (n:=3) rfl,hu0,hu1,g1,gi,gl]
  refine (ih (hs.kid (i:=1) (by omega)) (by omega) Ru1 G0).go ?_
  rintro _ _ ⟨rfl,rfl⟩
  generalize x.kids[0].fmt=t at *
  generalize x.kids[1].fmt=t2 at *
  simp -implicitDefEqProofs (disch:=first|omega|(simp only[LnZ];omega))[wrap64,g1,gi,gl]
  exact RetK.keep (hk _ _ ⟨rfl,by rw[e4]⟩)
theorem c_syncText {h:Heap}{n:Int}(h0:-2≤n) (h2:n≤2):CallE Tryd.prog fn_impl_syncText [.int .i64 n] h (fun u h'=>h'=h∧u=.string (Tx (syn n))):=by
 refine CallE.gen fun k hk=>EN_impl_syncText rfl ?_
 by_cases s2:0<n
 ·have y1:syn n=[33,dg n]:=by rw[syn,if_pos s2]
  simp -implicitDefEqProofs (disch:=first|omega|(simp only[LnZ];omega))[wrap64,s2]
  refine (c_Itoa (n:=n) (by omega) (by omega)).go ?_
  rintro _ _ ⟨rfl,rfl⟩
  simp -implicitDefEqProofs (disch:=omega)[wrap64]
  exact RetK.keep (hk _ _ ⟨rfl,by rw[y1]⟩)
 by_cases s1:n<0
 ·have y1:syn n=[63,dg (-n)]:=by rw[syn,if_neg (by omega),if_pos s1]
  simp -implicitDefEqProofs (disch:=first|omega|(simp only[LnZ];omega))[wrap64,s1,s2]
  refine (c_Itoa (n:=-n) (by omega) (by omega)).go ?_
  rintro _ _ ⟨rfl,rfl⟩
  simp -implicitDefEqProofs (disch:=omega)[wrap64]
  exact RetK.keep (hk _ _ ⟨rfl,by rw[y1]⟩)
 ·have y1:syn n=[45]:=by rw[syn,if_neg s2,if_neg s1]
  simp -implicitDefEqProofs (disch:=first|omega|(simp only[LnZ];omega))[wrap64,s1,s2]
  exact RetK.keep (hk _ _ ⟨rfl,by rw[y1]⟩)
theorem join_jn {c:UInt8}:∀{ws:List (List UInt8)},Lib.join ws [c]=jn c ws
 | []=>rfl
 | [w]=>Lib.join_one w [c]
 | w::x::r=>by
  rw[jn_cons (by simp),← join_jn]
  simp[Lib.join,List.intercalate]
theorem c_Join {h:Heap}{v:Value}{ws:List (List UInt8)}(R:Rep h v (ws.map Tx)) (hw:ws≠[]) (hl:(jn 32 ws).length≤1048576) (hl2:ws.length≤100):CallE Tryd.prog fn_strings_Join [v,.string (Tx [32])] h (fun u h'=>h'=h∧u=.string (Tx (jn 32 ws))):=by
 obtain⟨b,o,c,rfl,hc,hcell⟩:=cells_texts R (by simp[hw])
 have e:(ws.map Tx).map (·.data.toList)=ws:=by
  rw[List.map_map]
  conv=>rhs;rw[← List.map_id ws]
  rfl
 have hjn:Lib.join ((ws.map Tx).map (·.data.toList)) (Tx [32]).data.toList=jn 32 ws:=by
  rw[e];exact join_jn
 refine calle_below Tryd.func33 (by kernel_rfl) (by kernel_rfl) fun w hw=>?_
 have:=sh_strings_Join b o c (ws.map Tx) (Tx [32]) w (hcell w hw).2 (hcell w hw).1 (by rw[List.length_map];omega) hc (by rw[hjn];omega)
 rw[hjn] at this
 exact this
theorem c_row {h:Heap}{v:Value}{ws:List (List UInt8)}(R:Rep h v (ws.map Tx)) (hw:ws≠[]) (hl:(jn 32 ws).length≤1048576) (hl2:ws.length≤100):CallE Tryd.prog fn_impl_row [v] h (fun u h'=>h'=h∧u=.string (Tx (jn 32 ws++[10]))):=by
 refine CallE.gen fun k hk=>EN_impl_row rfl ?_
 simp -implicitDefEqProofs (disch:=omega)[wrap64]
 refine (c_Join R hw hl hl2).go ?_
 rintro _ _ ⟨rfl,rfl⟩
 simp -implicitDefEqProofs (disch:=omega)[wrap64]
 exact RetK.keep (hk _ _ ⟨rfl,rfl⟩)
theorem Ln.row_ok {x:Ln}(h:x.Ok):(jn 32 x.ws).length≤1048576∧x.ws.length≤100:=by
 have h1:=Ln.row_len h
 refine⟨by have:x.row=jn 32 x.ws:=rfl;rw[← this];omega,?_⟩
 cases x with
 | sys l=>have h:VOk l:=h;have:=h.1;simp[Ln.ws,this]
 | prc n=>simp[Ln.ws]
 | edg e=>simp[Ln.ws]
theorem sys_ws {l:List Int}(h:l.length=3):(Ln.sys l).ws=[wSys,[dg l[0]],[dg l[1]],[dg l[2]]]:=by
 match l,h with
 | [a,b,c],_=>rfl
theorem c_FormatSystem {h:Heap}{v:Value}{s:Sy}(R:Rep h v s) (G:Gl h):CallE Tryd.prog fn_impl_FormatSystem [v] h (fun u h'=>h.le h'∧u=.string (Tx (if s.Ok then s.fmt else []))):=by
 have FS:=R.aSy
 have R0:=R
 obtain⟨v1,v2,rfl,R1,R2'⟩:=Rep_Sy.1 R
 refine CallE.gen fun k hk=>EN_impl_FormatSystem rfl ?_
 simp -implicitDefEqProofs (disch:=first|omega|(simp only[LnZ];omega))[wrap64,FS]
 refine (c_SystemValid R0).go ?_
 rintro _ h1 ⟨l1,rfl⟩
 by_cases hs:s.Ok
 case neg=>
  simp -implicitDefEqProofs (disch:=first|omega|(simp only[LnZ];omega))[wrap64,hs]
  exact RetK.keep (hk _ _ ⟨l1,by rw[if_neg hs]⟩)
 rw[if_pos hs] at hk
 have hil:=hs.vs.len
 have hp3:=hs.p3
 have R1':=R1.le l1
 have i0:=hs.vs.at (i:=0) (by omega)
 have i1:=hs.vs.at (i:=1) (by omega)
 have i2:=hs.vs.at (i:=2) (by omega)
 simp -implicitDefEqProofs (disch:=first|omega|(simp only[LnZ];omega))[wrap64,hs,R1'.I]
 refine (c_Itoa i0.1 (by omega)).go ?_
 rintro _ _ ⟨rfl,rfl⟩
 simp -implicitDefEqProofs (disch:=first|omega|(simp only[LnZ];omega))[wrap64,hs,R1'.I]
 refine (c_Itoa i1.1 (by omega)).go ?_
 rintro _ _ ⟨rfl,rfl⟩
 simp -implicitDefEqProofs (disch:=first|omega|(simp only[LnZ];omega))[wrap64,hs,R1'.I]
 refine (c_Itoa i2.1 (by omega)).go ?_
 rintro _ _ ⟨rfl,rfl⟩
 simp -implicitDefEqProofs (disch:=omega)[wrap64]
 have hws:=sys_ws hil
 refine HS.bls (HS.init) ([wSys,[dg s.init[0]],[dg s.init[1]],[dg s.init[2]]].map Tx) rfl rfl (by simp[Flat.ok]) (by simp) fun q h2 H=>?_
 simp -implicitDefEqProofs (disch:=omega)[wrap64]
 rw[← hws] at H
 have hro:=Ln.row_ok (x:=.sys s.init) hs.vs
 refine (c_row H.rep Ln.ws_ne hro.1 hro.2).go ?_
 rintro _ h2 ⟨rfl,rfl⟩
 have l1:=l1.trans H.base
 have ho1:jn 32 (Ln.sys s.init).ws++[10]=rows [.sys s.init]:=by rw[rows_one];rfl
 have hrl:=Ln.row_len (x:=.sys s.init) hs.vs
 have hrl:(jn 32 (Ln.sys s.init).ws).length≤120:=hrl
 clear H
 simp -implicitDefEqProofs (disch:=first|omega|(simp only[LnZ];omega))[wrap64,R2'.len]
 refine wp_count s.procs.length (fun i e h'=>∃o:List UInt8,e=[none,none,none,some (.string (Tx o)),none,none,none,some v2,some (.int .i64 s.procs.length),some (.int .i64 i),none,none,none]∧h.le h'∧o=rows (.sys s.init::(s.procs.take i).flatMap Pr.lns)∧o.length≤1000*(i+1)) ⟨_,rfl,l1,by rw[ho1];rfl,by simp;omega⟩ ?_
 rintro J i _ h3 hJ hi ⟨o,rfl,l3,ho,hol⟩
 have R2:=R2'.le l3
 simp -implicitDefEqProofs (disch:=first|omega|(simp only[LnZ];omega))[wrap64,R2.len]
 refine IteW.mk (fun hlt=>?_) (fun hge=>?_)
 ·have hix:i<s.procs.length:=by omega
  have hP:=hs.at hix
  obtain⟨u,hu,Ru⟩:=R2.ld hix
  change hload _ (some (elp 2 v2 i)) (some 2)=some u at hu
  obtain⟨we,rfl,kl,R3⟩:=Rep_Pr.1 Ru
  have hn1:=hP.n1
  have hn4:=hP.n4
  have hel:=hP.el
  simp -implicitDefEqProofs (disch:=first|omega|(simp only[LnZ];omega))[wrap64,R2.X (n:=2) rfl,hu,setC,R3.one,R3.cells]
  refine (c_Itoa (n:=s.procs[i].locs) (by omega) (by omega)).go ?_
  rintro _ h3 ⟨rfl,rfl⟩
  simp -implicitDefEqProofs (disch:=omega)[wrap64]
  refine HS.bls (HS.init) ([wPrc,[dg s.procs[i].locs]].map Tx) rfl rfl (by simp[Flat.ok]) (by simp) fun q h4 H=>?_
  simp -implicitDefEqProofs (disch:=omega)[wrap64]
  have hro:=Ln.row_ok (x:=.prc s.procs[i].locs) ⟨hn1,hn4⟩
  refine (c_row (ws:=(Ln.prc s.procs[i].locs).ws) H.rep Ln.ws_ne hro.1 hro.2).go ?_
  rintro _ h4 ⟨rfl,rfl⟩
  have l4:=H.base
  clear H
  have hrl2:(jn 32 (Ln.prc s.procs[i].locs).ws).length≤120:=Ln.row_len (x:=.prc s.procs[i].locs) ⟨hn1,hn4⟩
  simp -implicitDefEqProofs (disch:=first|omega|(simp only[LnZ];omega))[wrap64,R3.len]
  have hro2:(Ln.prc s.procs[i].locs).row=jn 32 (Ln.prc s.procs[i].locs).ws:=rfl
  refine wp_count s.procs[i].edges.length (fun k e h'=>∃o':List UInt8,e=[none,none,none,some (.string (Tx o')),none,none,none,some v2,some (.int .i64 s.procs.length),some (.int .i64 i),some we,some (.int .i64 s.procs[i].edges.length),some (.int .i64 k)]∧h3.le h'∧o'=rows (.sys s.init::(s.procs.take i).flatMap Pr.lns++.prc s.procs[i].locs::(s.procs[i].edges.take k).map .edg)∧o'.length≤1000*(i+1)+121*(k+1)) ⟨_,rfl,l4,?_,by simp;omega⟩ ?_
  ·rw[List.take_zero,List.map_nil,rows_snoc,← ho,hro2]
  rintro I k _ h5 hI hk2 ⟨o',rfl,l5,ho',hol'⟩
  have R4:=R3.le l5
  simp -implicitDefEqProofs (disch:=omega)[wrap64]
  refine IteW.mk (fun hlt=>?_) (fun hge=>?_)
  ·have hkx:k<s.procs[i].edges.length:=by omega
   have hE:=hP.at hkx
   obtain⟨u2,hu2,Ru2⟩:=R4.ld hkx
   change hload _ (some (elp 10 we k)) (some 10)=some u2 at hu2
   obtain⟨E,hEE⟩:∃E,s.procs[i].edges[k]=E:=⟨_,rfl⟩
   rw[hEE] at hE Ru2
   obtain⟨w1,w2,rfl,ok,X1,X2⟩:=Rep_Ed.1 Ru2
   have Y1:Rep h5 (.agg #[.int .i64 E.guard.kind,.int .i64 E.guard.val,w1]) E.guard:=Rep_Exq.2 ⟨w1,rfl,ok.gk,ok.gv,X1⟩
   have Y2:Rep h5 (.agg #[.int .i64 E.value.kind,.int .i64 E.value.val,w2]) E.value:=Rep_Exq.2 ⟨w2,rfl,ok.vk,ok.vv,X2⟩
   have hO1:=X1.one
   have hC1:=X1.cells
   have hO2:=X2.one
   have hC2:=X2.cells
   have Gg:=G.le (l3.trans l5)
   have hro3:=Ln.row_ok (x:=.edg E) ⟨_,hE⟩
   have hrl3:=Ln.row_len (x:=.edg E) ⟨_,hE⟩
   have hn4':=hE.n4
   have hv1:=hE.v1
   by_cases q1:0≤E.var
   ·have ya:E.asg=(120+UInt8.ofNat E.var.toNat)::58::61::E.value.fmt:=by rw[Ed.asg,if_neg (by omega)];simp
    have hvo:E.value.Ok:=by
     rcases hE.vl with ⟨_,h⟩ | ⟨h,_⟩
     ·exact h
     ·omega
    have hvl:=hvo.fmt_len
    have ex:=slcV q1 hv1
    simp -implicitDefEqProofs (disch:=first|omega|(simp only[LnZ];omega))[wrap64,R4.X (n:=10) rfl,hu2,Ed.cs,setC,hO1,hC1,hO2,hC2,q1,ex]
    refine (c_text _ hvo.1 hvo.2 Y2 Gg).go ?_
    rintro _ h5 ⟨rfl,rfl⟩
    simp -implicitDefEqProofs (disch:=first|omega|(simp only[LnZ];omega))[wrap64,Ed.cs,setC,hO1,hC1,hO2,hC2,q1]
    refine (c_Itoa hE.f0 (by have:=hE.f1;omega)).go ?_
    rintro _ h5 ⟨rfl,rfl⟩
    simp -implicitDefEqProofs (disch:=first|omega|(simp only[LnZ];omega))[wrap64,Ed.cs,setC,hO1,hC1,hO2,hC2]
    refine (c_Itoa hE.t0 (by have:=hE.t1;omega)).go ?_
    rintro _ h5 ⟨rfl,rfl⟩
    simp -implicitDefEqProofs (disch:=first|omega|(simp only[LnZ];omega))[wrap64,Ed.cs,setC,hO1,hC1,hO2,hC2]
    refine (c_text _ hE.gd.1 hE.gd.2 Y1 Gg).go ?_
    rintro _ h5 ⟨rfl,rfl⟩
    simp -implicitDefEqProofs (disch:=first|omega|(simp only[LnZ];omega))[wrap64,Ed.cs,setC,hO1,hC1,hO2,hC2]
    refine (c_syncText hE.s0 hE.s1).go ?_
    rintro _ h5 ⟨rfl,rfl⟩
    simp -implicitDefEqProofs (disch:=first|omega|(simp only[LnZ];omega))[wrap64,Ed.cs,setC,hO1,hC1,hO2,hC2]
    refine HS.bls (HS.init) ([wEdg,[dg E.frm],[dg E.to],E.guard.fmt,E.asg,syn E.sync].map Tx) (by rw[List.map_cons,List.map_cons,List.map_cons,List.map_cons,List.map_cons,List.map_cons,ya];rfl) rfl (by simp[Flat.ok]) (by simp) fun q h6 H=>?_
    simp -implicitDefEqProofs (disch:=omega)[wrap64]
    refine (c_row (ws:=(Ln.edg E).ws) H.rep Ln.ws_ne hro3.1 hro3.2).go ?_
    rintro _ h6 ⟨rfl,rfl⟩
    have l6:=H.base
    clear H
    simp -implicitDefEqProofs (disch:=omega)[wrap64]
    refine hI _ _ hkx ⟨o'++((Ln.edg E).row++[10]),rfl,l5.trans l6,?_,by simp;omega⟩
    have e:(Ln.sys s.init::(s.procs.take i).flatMap Pr.lns++.prc s.procs[i].locs::(s.procs[i].edges.take (k+1)).map .edg)=(Ln.sys s.init::(s.procs.take i).flatMap Pr.lns++.prc s.procs[i].locs::(s.procs[i].edges.take k).map .edg)++[.edg s.procs[i].edges[k]]:=by rw[take_map1 hkx];simp only[List.cons_append,List.append_assoc]
    rw[e,rows_snoc,← ho',hEE]
   ·have ya:E.asg=[45]:=by rw[Ed.asg,if_pos (by omega)]
    simp -implicitDefEqProofs (disch:=first|omega|(simp only[LnZ];omega))[wrap64,R4.X (n:=10) rfl,hu2]
    simp -implicitDefEqProofs (disch:=first|omega|(simp only[LnZ];omega))[wrap64,Ed.cs,setC,hO1,hC1,hO2,hC2,q1]
    refine (c_Itoa hE.f0 (by have:=hE.f1;omega)).go ?_
    rintro _ h5 ⟨rfl,rfl⟩
    simp -implicitDefEqProofs (disch:=first|omega|(simp only[LnZ];omega))[wrap64,Ed.cs,setC,hO1,hC1,hO2,hC2]
    refine (c_Itoa hE.t0 (by have:=hE.t1;omega)).go ?_
    rintro _ h5 ⟨rfl,rfl⟩
    simp -implicitDefEqProofs (disch:=first|omega|(simp only[LnZ];omega))[wrap64,Ed.cs,setC,hO1,hC1,hO2,hC2]
    refine (c_text _ hE.gd.1 hE.gd.2 Y1 Gg).go ?_
    rintro _ h5 ⟨rfl,rfl⟩
    simp -implicitDefEqProofs (disch:=first|omega|(simp only[LnZ];omega))[wrap64,Ed.cs,setC,hO1,hC1,hO2,hC2]
    refine (c_syncText hE.s0 hE.s1).go ?_
    rintro _ h5 ⟨rfl,rfl⟩
    simp -implicitDefEqProofs (disch:=first|omega|(simp only[LnZ];omega))[wrap64,Ed.cs,setC,hO1,hC1,hO2,hC2]
    refine HS.bls (HS.init) ([wEdg,[dg E.frm],[dg E.to],E.guard.fmt,E.asg,syn E.sync].map Tx) (by rw[List.map_cons,List.map_cons,List.map_cons,List.map_cons,List.map_cons,List.map_cons,ya];rfl) rfl (by simp[Flat.ok]) (by simp) fun q h6 H=>?_
    simp -implicitDefEqProofs (disch:=omega)[wrap64]
    refine (c_row (ws:=(Ln.edg E).ws) H.rep Ln.ws_ne hro3.1 hro3.2).go ?_
    rintro _ h6 ⟨rfl,rfl⟩
    have l6:=H.base
    clear H
    simp -implicitDefEqProofs (disch:=omega)[wrap64]
    refine hI _ _ hkx ⟨o'++((Ln.edg E).row++[10]),rfl,l5.trans l6,?_,by simp;omega⟩
    have e:(Ln.sys s.init::(s.procs.take i).flatMap Pr.lns++.prc s.procs[i].locs::(s.procs[i].edges.take (k+1)).map .edg)=(Ln.sys s.init::(s.procs.take i).flatMap Pr.lns++.prc s.procs[i].locs::(s.procs[i].edges.take k).map .edg)++[.edg s.procs[i].edges[k]]:=by rw[take_map1 hkx];simp only[List.cons_append,List.append_assoc]
    rw[e,rows_snoc,← ho',hEE]
  ·obtain rfl:k=s.procs[i].edges.length:=by omega
   rw[List.take_length] at ho'
   simp -implicitDefEqProofs (disch:=omega)[wrap64]
   refine hJ _ _ hix ⟨o',by simp,l3.trans l5,?_,by omega⟩
   rw[take_flat hix,ho']
   rfl
 ·obtain rfl:i=s.procs.length:=by omega
  rw[List.take_length] at ho
  simp -implicitDefEqProofs (disch:=omega)[wrap64]
  exact RetK.keep (hk _ _ ⟨l3,by rw[ho];rfl⟩)
theorem c_FnExactFormatSystem {h:Heap}{v0:Value}{a0:Sy}(R0:Rep h v0 a0) (G:Gl h):CallE Tryd.prog fn_laws_FnExactFormatSystem [v0] h (fun u h'=>h.le h'∧u=.bool true):=by
 refine CallE.gen fun k hk=>EN_laws_FnExactFormatSystem rfl ?_
 have F0:=R0.aSy
 simp -implicitDefEqProofs (disch:=first|omega|(simp only[LnZ];omega))[wrap64,F0]
 refine (c_szSystem R0 (n:=1048576) (by omega)).go ?_
 rintro _ h ⟨rfl,l0,rfl,q0⟩
 simp -implicitDefEqProofs (disch:=first|omega|(simp only[LnZ];omega))[wrap64,F0]
 refine IteW.mk (fun hlt=>?_) (fun hge0=>?_)
 ·simp -implicitDefEqProofs (disch:=omega)[wrap64]
  exact RetK.keep (hk _ _ ⟨Heap.le.refl _,rfl⟩)
 have qq0:Sz.sz a0≤1048576:=by omega
 have H:HS h [] h:=HS.init
 simp -implicitDefEqProofs (disch:=first|omega|(simp only[LnZ];omega))[wrap64,F0]
 refine (c_toSystem R0 (by omega)).go ?_
 intro s0 m1 G1
 have H:=G1.app H
 have F3:=H.rep.aSy
 simp -implicitDefEqProofs (disch:=first|omega|(simp only[LnZ];omega))[wrap64,F0,F3]
 refine (c_spec_FormatSystem H.rep).go ?_
 rintro _ m3 ⟨l3,rfl⟩
 have H:=H.le l3
 simp -implicitDefEqProofs (disch:=first|omega|(simp only[LnZ];omega))[wrap64,F0,F3]
 refine (c_toSystem (R0.on H) (by omega)).go ?_
 intro x0 m4 G1
 have H:=G1.app H
 have F6:=H.rep.aSy
 simp -implicitDefEqProofs (disch:=first|omega|(simp only[LnZ];omega))[wrap64,F0,F3,F6]
 refine (c_FormatSystem H.rep (G.le H.base)).go ?_
 rintro _ m6 ⟨l6,rfl⟩
 have H:=H.le l6
 simp -implicitDefEqProofs (disch:=first|omega|(simp only[LnZ];omega))[wrap64,F0,F3,F6]
 refine (c_toSystem (R0.on H) (by omega)).go ?_
 intro t0 m7 G1
 have H:=G1.app H
 have F9:=H.rep.aSy
 simp -implicitDefEqProofs (disch:=first|omega|(simp only[LnZ];omega))[wrap64,F0,F3,F6,F9]
 refine (c_eqSystem H.sw1.rep H.rep).go ?_
 rintro _ _ ⟨rfl,rfl⟩
 simp -implicitDefEqProofs (disch:=first|omega|(simp only[LnZ];omega))[wrap64,F0,F3,F6,F9]
 exact RetK.keep (hk _ _ ⟨H.base,rfl⟩)
end Go.Proofs.YtjbjnicobdpdhaaDoor
